/- SeriesRide: riders; comparisons; equal lists. Own work. -/
import Derived.Test.YtjkidhjkpkcnhaaGreatDoorWSpecC
set_option maxRecDepth 100000
set_option linter.unusedVariables false
set_option linter.unusedSimpArgs false
namespace Go.Vm
open Go.RowKit
abbrev Rdr := ByteArray × Int × Int × Unit
def rdrBad (v : Rdr) : Int := bif s74 v.2.1 0 1000 then 1 else bif s74 v.2.2.1 0 120 then 1 else 0
def ridersFault (l : List Rdr) : Int := if l.length > 500 then 2 else chk (·.1) rdrBad none l
def s14 := ridersFault
def s16 := ridersFault
theorem h14 (l : List Rdr) (hw : WFs A14 (l, ())) : ∃ k, f14 s74 s75 k l = some (s14 l, ()) := by
  simp only [WFs, WF] at hw
  have hl := hw.1.1
  refine ⟨l.length + 1, ?_⟩
  unfold f14 s14 ridersFault
  rw [show (500 : Int) = ((500 : Nat) : Int) from rfl, len_gt]
  by_cases hn : l.length > 500
  · simp [hn]
  · simp only [hn, decide_false, cond_false, if_false]
    rw [iter_scan0 (β := Unit) l (fun j _ => (((j : Int), ()), ())) (chkBody (·.1) rdrBad l) (fun _ => .inr ((), ())) () ?hs ?hk ?h1 ?h2]
    case hs => rfl
    case hk => exact Nat.lt_succ_self _
    · exact chk_scan (·.1) rdrBad l l 0 rfl
    · intro j x b hx
      simp only [lt_at hx, inR_at hx, rd_at hx, wrap_succ hx hl, cond_true, chkBody, s75]
      cases !key x.1
      · simp only [cond_false]
        by_cases hj : j = 0
        · subst hj
          have : decide (((0 : Nat) : Int) > 0) = false := by decide
          simp only [this, cond_false, Option.bind_some, prevK, if_true, rdrBad]
          cases s74 x.2.1 0 1000 <;> cases s74 x.2.2.1 0 120 <;> rfl
        · obtain ⟨y, hy, hwr⟩ := prev_at hx hl hj
          have : decide ((j : Int) > 0) = true := by simp; omega
          simp only [this, cond_true, hwr, inR_at hy, rd_at hy, Option.bind_some, prevK, hj, if_false, hy, Option.map_some, leS]
          cases (sLt x.1 y.1 || sEq x.1 y.1)
          · simp only [cond_false, rdrBad]
            cases s74 x.2.1 0 1000 <;> cases s74 x.2.2.1 0 120 <;> rfl
          · rfl
      · rfl
    · intro b
      simp
theorem h16 (l : List Rdr) (hw : WFs A16 (l, ())) : ∃ k, f16 s36 s71 k l = some (s16 l, ()) := by
  simp only [WFs, WF] at hw
  have hl := hw.1.1
  refine ⟨l.length + 1, ?_⟩
  unfold f16 s16 ridersFault
  rw [show (500 : Int) = ((500 : Nat) : Int) from rfl, len_gt]
  by_cases hn : l.length > 500
  · simp [hn]
  · simp only [hn, decide_false, cond_false, if_false]
    rw [iter_scan0 (β := ByteArray) l (fun j b => ((b, (j : Int), ()), ())) (lastBody (·.1) rdrBad) (fun _ => .inr ((), ())) (ByteArray.mk #[]) ?hs ?hk ?h1 ?h2]
    case hs => rfl
    case hk => exact Nat.lt_succ_self _
    · rw [← chkLast_first]
      exact last_scan (·.1) rdrBad l 0 _
    · intro j x b hx
      simp only [lt_at hx, inR_at hx, rd_at hx, wrap_succ hx hl, cond_true, lastBody, s36, in_out, leS, Bool.not_not]
      cases !key x.1
      · simp only [cond_false]
        cases (sLt x.1 b || sEq x.1 b)
        · simp only [cond_false, rdrBad]
          cases s74 x.2.1 0 1000 <;> cases s74 x.2.2.1 0 120 <;> rfl
        · rfl
      · rfl
    · intro b
      simp
/-! ### comparisons -/
abbrev Rid := ByteArray × ByteArray × ByteArray × ByteArray × Int × Int × Int × Int × Unit
def s68 (a b : ByteArray) : Int := s133 a b
theorem h68 (a b : ByteArray) (hw : WFs A68 (a, b, ())) : ∃ k, f68 s133 k a b = some (s68 a b, ()) := ⟨0, rfl⟩
def s65 (a b : Rid) : Int := nz [s67 a.2.2.2.2.1 b.2.2.2.2.1, s68 a.1 b.1]
theorem h65 (a b : Rid) (hw : WFs A65 (a, b, ())) : ∃ k, f65 s66 s67 s68 k a b = some (s65 a b, ()) := ⟨0, rfl⟩
def s138 (n : Int) : Int := bif decide (n < 0) then -1 else bif decide (n > 0) then 1 else 0
theorem h138 (n : Int) (hw : WFs A138 (n, ())) : ∃ k, f138 k n = some (s138 n, ()) := ⟨0, by
  unfold f138 s138
  cases decide (n < 0)
  · cases decide (n > 0) <;> rfl
  · rfl⟩
def s81 (a b : Rid) : Int := bif a.2.2.2.2.1 != b.2.2.2.2.1 then s138 (IntKind.i64.wrap (a.2.2.2.2.1 - b.2.2.2.2.1)) else s68 a.1 b.1
theorem h81 (a b : Rid) (hw : WFs A81 (a, b, ())) : ∃ k, f81 s68 s138 k a b = some (s81 a b, ()) := ⟨0, by
  unfold f81 s81
  cases a.2.2.2.2.1 != b.2.2.2.2.1 <;> rfl⟩
/-! ### where a number stands -/
def s82 (l : List Int) (x : Int) : Int := match l.findIdx? (fun y => x == y) with
  | some i => (i : Int)
  | none => -1
theorem h82 (l : List Int) (x : Int) (hw : WFs A82 (l, x, ())) : ∃ k, f82 k l x = some (s82 l x, ()) := by
  simp only [WFs, WF] at hw
  have hl := hw.1.1
  clear hw
  refine ⟨l.length + 1, ?_⟩
  unfold f82 s82
  rw [iter_find (s0 := (((0 : Int), ()), ())) l (fun j => (((j : Int), ()), ())) (fun y => x == y) (fun i => .inl ((i : Int), ())) (.inr ((), ())) rfl (Nat.lt_succ_self _)
    (fun j y hy => by
      simp only [lt_at hy, inR_at hy, rd_at hy, wrap_succ hy hl, cond_true]
      cases x == y <;> rfl)
    (by simp)]
  cases l.findIdx? (fun y => x == y) <;> rfl
/-! ### equal lists -/
theorem zip_none {α : Type} {ne : α → α → Bool} (hne : ∀ a b, ne a b = false ↔ a = b) : ∀ {a b : List α}, a.length = b.length → ((List.zip a b).findIdx? (fun q => ne q.1 q.2) = none ↔ a = b)
  | [], [], _ => by simp
  | x :: a, y :: b, h => by
    have ih := zip_none hne (a := a) (b := b) (by simpa using h)
    rw [List.zip_cons_cons, List.findIdx?_cons]
    cases hq : ne x y
    · have := (hne x y).1 hq
      subst this
      simp [ih]
    · have : x ≠ y := fun e => by rw [(hne x y).2 e] at hq; cases hq
      simp [this]
/-- a loop that holds two lists against each other -/
theorem iter_same {α : Type} {a b : List α} (d : α) (eq : α → α → Bool) (heq : ∀ x y, eq x y = true ↔ x = y) (hlen : a.length = b.length) (hl : a.length ≤ 9223372036854775807) {k : Nat} (hk : a.length < k)
    {f : (Int × Unit) × Unit → Option (((Int × Unit) × Unit) ⊕ ((Bool × Unit) ⊕ (Unit × Unit)))}
    (hf : ∀ y, f y = bif decide (y.1.1 < (a.length : Int)) then (bif inR y.1.1 (a.length : Int) then (bif inR y.1.1 (b.length : Int) then (bif !eq (rd d a y.1.1) (rd d b y.1.1) then some (.inr (.inl (false, ()))) else some (.inl ((IntKind.i64.wrap (y.1.1 + 1), ()), ()))) else none) else none) else some (.inr (.inr ((), ())))) [Decidable (a = b)] :
    iter k f (((0 : Int), ()), ()) = some (if a = b then .inr ((), ()) else .inl (false, ())) := by
  have hzl : (List.zip a b).length = a.length := by rw [List.length_zip]; omega
  rw [iter_find (s0 := (((0 : Int), ()), ())) (List.zip a b) (fun i => (((i : Int), ()), ())) (fun q => !eq q.1 q.2) (fun i => .inl (false, ())) (.inr ((), ())) rfl (by omega)
    (fun j q hq => by
      obtain ⟨x, y⟩ := q
      obtain ⟨hx, hy⟩ := List.getElem?_zip_eq_some.1 hq
      rw [hf]
      simp only [lt_at hx, inR_at hx, inR_at hy, rd_at hx, rd_at hy, wrap_succ hx hl, cond_true]
      cases eq x y <;> rfl)
    (by rw [hf, hzl]; simp)]
  have := zip_none (ne := fun x y : α => !eq x y) (fun x y => by rw [Bool.not_eq_false', heq]) hlen
  cases hfi : (List.zip a b).findIdx? (fun q => !eq q.1 q.2) with
  | none => rw [if_pos (this.1 hfi)]
  | some i =>
    have : ¬ a = b := fun e => by rw [this.2 e] at hfi; cases hfi
    rw [if_neg this]
def s23 (a b : List Int) : Bool := decide (a = b)
theorem h23 (a b : List Int) (hw : WFs A23 (a, b, ())) : ∃ k, f23 k a b = some (s23 a b, ()) := by
  simp only [WFs, WF] at hw
  have hl := hw.1.1
  clear hw
  refine ⟨a.length + 1, ?_⟩
  unfold f23 s23
  by_cases hlen : a.length = b.length
  · have e : ((a.length : Int) != (b.length : Int)) = false := by simp [hlen]
    rw [e]
    simp only [cond_false]
    refine (congrArg (fun q => Option.bind q _) (iter_same (0 : Int) (fun x y : Int => x == y) (fun x y => beq_iff_eq) hlen hl (Nat.lt_succ_self _) (fun y => rfl))).trans ?_
    by_cases h : a = b
    · rw [if_pos h, decide_eq_true h]; rfl
    · rw [if_neg h, decide_eq_false h]; rfl
  · have e : ((a.length : Int) != (b.length : Int)) = true := by simp; omega
    have : ¬ a = b := fun e => hlen (by rw [e])
    rw [e, decide_eq_false this]
    rfl
def ridEq (x y : Rid) : Bool := (sEq x.1 y.1) && ((sEq x.2.1 y.2.1) && ((sEq x.2.2.1 y.2.2.1) && ((sEq x.2.2.2.1 y.2.2.2.1) && ((x.2.2.2.2.1 == y.2.2.2.2.1) && ((x.2.2.2.2.2.1 == y.2.2.2.2.2.1) && ((x.2.2.2.2.2.2.1 == y.2.2.2.2.2.2.1) && ((x.2.2.2.2.2.2.2.1 == y.2.2.2.2.2.2.2.1) && true)))))))
theorem ridEq_iff (x y : Rid) : ridEq x y = true ↔ x = y := by
  unfold ridEq
  simp only [Bool.and_eq_true, sEq_iff, beq_iff_eq]
  obtain ⟨a, b, c, d, e, f, g, h, u⟩ := x
  obtain ⟨a', b', c', d', e', f', g', h', u'⟩ := y
  simp only [Prod.mk.injEq, and_true]
open Classical in
noncomputable def s24 (a b : List Rid) : Bool := decide (a = b)
open Classical in
theorem h24 (a b : List Rid) (hw : WFs A24 (a, b, ())) : ∃ k, f24 k a b = some (s24 a b, ()) := by
  simp only [WFs, WF] at hw
  have hl := hw.1.1
  clear hw
  refine ⟨a.length + 1, ?_⟩
  unfold f24 s24
  by_cases hlen : a.length = b.length
  · have e : ((a.length : Int) != (b.length : Int)) = false := by simp [hlen]
    rw [e]
    simp only [cond_false]
    refine (congrArg (fun q => Option.bind q _) (iter_same zWT6 ridEq ridEq_iff hlen hl (Nat.lt_succ_self _) (fun y => rfl))).trans ?_
    by_cases h : a = b
    · rw [if_pos h, decide_eq_true h]; rfl
    · rw [if_neg h, decide_eq_false h]; rfl
  · have e : ((a.length : Int) != (b.length : Int)) = true := by simp; omega
    have : ¬ a = b := fun e => hlen (by rw [e])
    rw [e, decide_eq_false this]
    rfl
end Go.Vm
