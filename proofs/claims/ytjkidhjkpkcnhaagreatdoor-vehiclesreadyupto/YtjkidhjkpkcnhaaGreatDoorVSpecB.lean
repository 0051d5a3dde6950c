/- VehiclesReady: services, what is due; who is busy; equal lists. Own work. -/
import Derived.Test.YtjkidhjkpkcnhaaGreatDoorVSpecA
set_option linter.unusedVariables false
set_option linter.unusedSimpArgs false
namespace Go.Vm
open Go.RowKit
abbrev Svc := ByteArray × Int × Int × Unit
abbrev Par := ByteArray × ByteArray × Unit
def svcBad (v : Svc) : Int := bif s74 v.2.1 0 1000000000 then 1 else bif s74 v.2.2.1 0 4000 then 1 else bif v.2.1 == 0 then (bif v.2.2.1 == 0 then 3 else 0) else 0
def svcsFault (l : List Svc) : Int := if l.length > 50 then 2 else chk (·.1) svcBad none l
def s84 := svcsFault
def s33 := svcsFault
theorem h84 (l : List Svc) (hw : WFs A84 (l, ())) : ∃ k, f84 s74 s75 k l = some (s84 l, ()) := by
  simp only [WFs, WF] at hw
  have hl := hw.1.1
  refine ⟨l.length + 1, ?_⟩
  unfold f84 s84 svcsFault
  rw [show (50 : Int) = ((50 : Nat) : Int) from rfl, len_gt]
  by_cases hn : l.length > 50
  · simp [hn]
  · simp only [hn, decide_false, cond_false, if_false]
    rw [iter_scan0 (β := Unit) l (fun j _ => (((j : Int), ()), ())) (chkBody (·.1) svcBad l) (fun _ => .inr ((), ())) () ?hs ?hk ?h1 ?h2]
    case hs => rfl
    case hk => exact Nat.lt_succ_self _
    · exact chk_scan (·.1) svcBad l l 0 rfl
    · intro j x b hx
      simp only [lt_at hx, inR_at hx, rd_at hx, wrap_succ hx hl, cond_true, chkBody, s75]
      cases !key x.1
      · simp only [cond_false]
        by_cases hj : j = 0
        · subst hj
          have : decide (((0 : Nat) : Int) > 0) = false := by decide
          simp only [this, cond_false, Option.bind_some, prevK, if_true, svcBad]
          cases s74 x.2.1 0 1000000000 <;> cases s74 x.2.2.1 0 4000 <;> cases x.2.1 == 0 <;> cases x.2.2.1 == 0 <;> rfl
        · obtain ⟨y, hy, hwr⟩ := prev_at hx hl hj
          have : decide ((j : Int) > 0) = true := by simp; omega
          simp only [this, cond_true, hwr, inR_at hy, rd_at hy, Option.bind_some, prevK, hj, if_false, hy, Option.map_some, leS]
          cases (sLt x.1 y.1 || sEq x.1 y.1)
          · simp only [cond_false, svcBad]
            cases s74 x.2.1 0 1000000000 <;> cases s74 x.2.2.1 0 4000 <;> cases x.2.1 == 0 <;> cases x.2.2.1 == 0 <;> rfl
          · rfl
      · rfl
    · intro b
      simp
theorem h33 (l : List Svc) (hw : WFs A33 (l, ())) : ∃ k, f33 s36 s71 k l = some (s33 l, ()) := by
  simp only [WFs, WF] at hw
  have hl := hw.1.1
  refine ⟨l.length + 1, ?_⟩
  unfold f33 s33 svcsFault
  rw [show (50 : Int) = ((50 : Nat) : Int) from rfl, len_gt]
  by_cases hn : l.length > 50
  · simp [hn]
  · simp only [hn, decide_false, cond_false, if_false]
    rw [iter_scan0 (β := ByteArray) l (fun j b => ((b, (j : Int), ()), ())) (lastBody (·.1) svcBad) (fun _ => .inr ((), ())) (ByteArray.mk #[]) ?hs ?hk ?h1 ?h2]
    case hs => rfl
    case hk => exact Nat.lt_succ_self _
    · rw [← chkLast_first]
      exact last_scan (·.1) svcBad l 0 _
    · intro j x b hx
      simp only [lt_at hx, inR_at hx, rd_at hx, wrap_succ hx hl, cond_true, lastBody, s36, in_out, leS, Bool.not_not]
      cases !key x.1
      · simp only [cond_false]
        cases (sLt x.1 b || sEq x.1 b)
        · simp only [cond_false, svcBad]
          cases s74 x.2.1 0 1000000000 <;> cases s74 x.2.2.1 0 4000 <;> cases x.2.1 == 0 <;> cases x.2.2.1 == 0 <;> rfl
        · rfl
      · rfl
    · intro b
      simp
theorem W213 : Weak (ltOf s213) := W267
theorem W187 : Weak (ltOf s187) := W219
/-! ### a loop that collects, with whatever else in the state -/
section
variable {α γ σ τ : Type}
theorem collectG {f : σ → Option (σ ⊕ τ)} {s0 : σ} {k : Nat} (xs : List α) (g : α → Option γ) (mk : Nat → List γ → σ) (fin : List γ → τ) (hs : s0 = mk 0 []) (hk : xs.length < k) (hlen : xs.length ≤ 4294967296)
    (h1 : ∀ (j : Nat) (x : α) (b : List γ), xs[j]? = some x → b.length < 4294967296 → f (mk j b) = some (.inl (mk (j + 1) (match g x with | some y => b ++ [y] | none => b))))
    (h2 : ∀ b, f (mk xs.length b) = some (.inr (fin b))) : iter k f s0 = some (fin (xs.filterMap g)) := by
  have e := iter_fold (s0 := s0) (k := k) (f := f) xs mk (fun x b => match g x with | some y => b ++ [y] | none => b) fin (fun j b => b.length ≤ j) [] (Nat.le_refl _) hs hk
    (fun j x b hx hb => by
      cases g x with
      | none => simp only; omega
      | some y => simp only [List.length_append, List.length_singleton]; omega)
    (fun j x b hx hb => h1 j x b hx (by have := (List.getElem?_eq_some_iff.1 hx).1; omega))
    (fun b _ => h2 b)
  rw [e]
  congr 2
  have key : ∀ (l : List α) (b : List γ), l.foldl (fun b x => match g x with | some y => b ++ [y] | none => b) b = b ++ l.filterMap g := by
    intro l
    induction l with
    | nil => intro b; simp
    | cons x l ih =>
      intro b
      rw [List.foldl_cons, ih, List.filterMap_cons]
      cases g x <;> simp
  rw [key]
  rfl
end
/-! ### what is due -/
def inT (f a : Int) (r : Run) : Bool := decide (r.2.1.2.1 > f) && decide (r.2.1.2.1 ≤ a)
def dueStep (f a : Int) (r : Run) (b : Int) : Int := bif inT f a r then IntKind.i64.wrap (b + r.2.2.1) else b
def dueSum (v : ByteArray) (f a : Int) (t : List Run) : Int := (t.filterMap (ownR v)).foldl (fun b r => dueStep f a r b) 0
theorem dueSum_eq (v : ByteArray) (f a : Int) : ∀ (t : List Run) (b : Int), t.foldl (fun b r => bif sEq r.1 v then dueStep f a r b else b) b = (t.filterMap (ownR v)).foldl (fun b r => dueStep f a r b) b
  | [], b => rfl
  | r :: t, b => by
    rw [List.foldl_cons, dueSum_eq v f a t, List.filterMap_cons]
    unfold ownR
    cases sEq r.1 v
    · simp only [cond_false]
    · simp only [cond_true, List.foldl_cons]
def isDue (m f a : Int) (s : Svc) : Bool := bif decide (s.2.1 > 0) && decide (m ≥ s.2.1) then true else bif decide (s.2.2.1 > 0) then decide (IntKind.i64.wrap (a - f) ≥ IntKind.i64.wrap (s.2.2.1 * 86400000)) else false
def dueG (m f a : Int) (s : Svc) : Option ByteArray := bif isDue m f a s then some s.1 else none
def dueL (m f a : Int) (l : List Svc) : List ByteArray := l.filterMap (dueG m f a)
def s26 (l : List Svc) (t : List Run) (v : ByteArray) (f a : Int) : Option (List ByteArray × Int × Unit) :=
  if l.length ≤ 4294967295 ∧ t.length ≤ 4294967295 then some (bif nz [s84 l, s85 t] != 0 then ([], nz [s84 l, s85 t], ()) else bif !key v then ([], 5, ()) else bif s74 f 0 a then ([], 1, ()) else bif !s73 a then ([], 1, ()) else (dueL (dueSum v f a t) f a l, 0, ())) else none
theorem h26 (l : List Svc) (t : List Run) (v : ByteArray) (f a : Int) (y : List ByteArray × Int × Unit) (hw : WFs A26 (l, t, v, f, a, ())) (h : s26 l t v f a = some y) : ∃ k, f26 s69 s73 s74 s75 s84 s85 s86 k l t v f a = some y := by
  unfold s26 at h
  split at h
  rotate_left
  · cases h
  rename_i hn
  cases h
  refine ⟨l.length + t.length + 1, ?_⟩
  unfold f26
  simp only [s69]
  cases nz [s84 l, s85 t] != 0
  rotate_left
  · rfl
  simp only [cond_false, s75]
  cases !key v
  rotate_left
  · rfl
  simp only [cond_false]
  cases s74 f 0 a
  rotate_left
  · rfl
  simp only [cond_false]
  cases !s73 a
  rotate_left
  · rfl
  simp only [cond_false]
  rw [show s86 t v = some (t.filterMap (ownR v), ()) from by unfold s86; rw [if_pos (by omega)]]
  simp only [Option.bind_some]
  have hl2 := List.length_filterMap_le (ownR v) t
  rw [iter_fold (s0 := zVT4) (t.filterMap (ownR v)) (fun j b => ((b, (j : Int), ()), ())) (fun r b => dueStep f a r b) (fun b => .inr ((b, ()), ())) (fun _ _ => True) 0 trivial rfl (by omega) (fun _ _ _ _ _ => trivial)
    (fun j x b hx _ => by
      simp only [lt_at hx, inR_at hx, rd_at hx, wrap_succ hx (by omega), cond_true, dueStep, inT]
      cases decide (x.2.1.2.1 > f) <;> cases decide (x.2.1.2.1 ≤ a) <;> rfl)
    (fun b _ => by simp)]
  simp only [Option.bind_some]
  rw [collectG (s0 := (([], (0 : Int), ()), ())) l (dueG (dueSum v f a t) f a) (fun j b => ((b, (j : Int), ()), ())) (fun b => .inr ((b, ()), ())) rfl (by omega) (by omega)
    (fun j x b hx hb => by
      have : decide (b.length + [x.1].length ≤ 4294967296) = true := decide_eq_true (by simp only [List.length_singleton]; omega)
      simp only [lt_at hx, inR_at hx, rd_at hx, wrap_succ hx (by omega), cond_true, dueG, isDue, this]
      show _ = _
      unfold dueSum
      cases decide (x.2.1 > 0)
      · simp only [cond_false, Bool.false_and]
        cases decide (x.2.2.1 > 0)
        · rfl
        · simp only [cond_true, Option.bind_some]
          cases decide (IntKind.i64.wrap (a - f) ≥ IntKind.i64.wrap (x.2.2.1 * 86400000)) <;> rfl
      · simp only [cond_true, Bool.true_and]
        cases decide ((t.filterMap (ownR v)).foldl (fun b r => dueStep f a r b) 0 ≥ x.2.1)
        · simp only [cond_false]
          cases decide (x.2.2.1 > 0)
          · rfl
          · simp only [cond_true, Option.bind_some]
            cases decide (IntKind.i64.wrap (a - f) ≥ IntKind.i64.wrap (x.2.2.1 * 86400000)) <;> rfl
        · rfl)
    (fun b => by simp)]
  rfl
def s43 (l : List Svc) (t : List Run) (v : ByteArray) (f a : Int) : Option (List ByteArray × Unit) :=
  if l.length ≤ 4294967295 ∧ t.length ≤ 4294967295 then some (dueL (dueSum v f a t) f a l, ()) else none
theorem h43 (l : List Svc) (t : List Run) (v : ByteArray) (f a : Int) (y : List ByteArray × Unit) (hw : WFs A43 (l, t, v, f, a, ())) (h : s43 l t v f a = some y) : ∃ k, f43 k l t v f a = some y := by
  unfold s43 at h
  split at h
  rotate_left
  · cases h
  rename_i hn
  cases h
  refine ⟨l.length + t.length + 1, ?_⟩
  unfold f43
  rw [iter_fold (s0 := zVT4) t (fun j b => ((b, (j : Int), ()), ())) (fun r b => bif sEq r.1 v then dueStep f a r b else b) (fun b => .inr ((b, ()), ())) (fun _ _ => True) 0 trivial rfl (by omega) (fun _ _ _ _ _ => trivial)
    (fun j x b hx _ => by
      simp only [lt_at hx, inR_at hx, rd_at hx, wrap_succ hx (by omega), cond_true, dueStep, inT]
      show _ = _
      cases sEq x.1 v
      · rfl
      · have e : decide (f < x.2.1.2.1) = decide (x.2.1.2.1 > f) := rfl
        rw [e]
        cases decide (x.2.1.2.1 > f) <;> cases decide (x.2.1.2.1 ≤ a) <;> rfl)
    (fun b _ => by simp)]
  simp only [Option.bind_some]
  rw [dueSum_eq v f a t 0]
  rw [collectG (s0 := (([], (0 : Int), ()), ())) l (dueG (dueSum v f a t) f a) (fun j b => ((b, (j : Int), ()), ())) (fun b => .inr ((b, ()), ())) rfl (by omega) (by omega)
    (fun j x b hx hb => by
      have : decide (b.length + [x.1].length ≤ 4294967296) = true := decide_eq_true (by simp only [List.length_singleton]; omega)
      simp only [lt_at hx, inR_at hx, rd_at hx, wrap_succ hx (by omega), cond_true, dueG, isDue, this]
      show _ = _
      unfold dueSum
      cases decide (x.2.1 > 0)
      · simp only [cond_false, Bool.false_and]
        cases decide (x.2.2.1 > 0)
        · rfl
        · simp only [cond_true, Option.bind_some]
          cases decide (IntKind.i64.wrap (a - f) ≥ IntKind.i64.wrap (x.2.2.1 * 86400000)) <;> rfl
      · simp only [cond_true, Bool.true_and]
        cases decide ((t.filterMap (ownR v)).foldl (fun b r => dueStep f a r b) 0 ≥ x.2.1)
        · simp only [cond_false]
          cases decide (x.2.2.1 > 0)
          · rfl
          · simp only [cond_true, Option.bind_some]
            cases decide (IntKind.i64.wrap (a - f) ≥ IntKind.i64.wrap (x.2.2.1 * 86400000)) <;> rfl
        · rfl)
    (fun b => by simp)]
  rfl
/-! ### who is busy -/
section
variable {α σ τ : Type}
theorem iter_any {f : σ → Option (σ ⊕ τ)} {s0 : σ} {k : Nat} (xs : List α) (mk : Nat → σ) (p : α → Bool) (hit miss : τ) (hs : s0 = mk 0) (hk : xs.length < k)
    (h1 : ∀ (j : Nat) (x : α), xs[j]? = some x → f (mk j) = some (bif p x then .inr hit else .inl (mk (j + 1))))
    (h2 : f (mk xs.length) = some (.inr miss)) : iter k f s0 = some (bif xs.any p then hit else miss) := by
  rw [iter_find (s0 := s0) (k := k) (f := f) xs mk p (fun _ => hit) miss hs hk h1 h2]
  congr 1
  cases h : xs.findIdx? p with
  | none =>
    have : xs.any p = false := by rw [← List.findIdx?_isSome, h]; rfl
    rw [this]; rfl
  | some i =>
    have : xs.any p = true := by rw [← List.findIdx?_isSome, h]; rfl
    rw [this]; rfl
end
def rIn (v : ByteArray) (at_ : Int) (r : Run) : Bool := sEq r.1 v && s80 at_ r.2.1
def cIn (v : ByteArray) (at_ : Int) (c : Chg) : Bool := sEq c.1 v && (decide (c.2.2.1 ≤ at_) && decide (at_ < c.2.2.2.1))
def busyB (v : ByteArray) (t : List Run) (c : List Chg) (at_ : Int) : Bool := t.any (rIn v at_) || c.any (cIn v at_)
def s92 := busyB
theorem h92 (v : ByteArray) (t : List Run) (c : List Chg) (at_ : Int) (hw : WFs A92 (v, t, c, at_, ())) : ∃ k, f92 k v t c at_ = some (s92 v t c at_, ()) := by
  simp only [WFs, WF] at hw
  have hl := hw.2.1.1
  have hl2 := hw.2.2.1.1
  clear hw
  refine ⟨t.length + c.length + 1, ?_⟩
  unfold f92 s92 busyB
  rw [iter_any (s0 := (((0 : Int), ()), (v, at_, ()))) t (fun j => (((j : Int), ()), (v, at_, ()))) (rIn v at_) (.inl (true, ())) (.inr ((), (v, at_, ()))) rfl (by omega)
    (fun j x hx => by
      have hj : decide ((j : Int) ≥ 0) = true := by simp
      simp only [lt_at hx, inR_at hx, rd_at hx, wrap_succ hx hl, cond_true, rIn, s80, hj]
      cases sEq x.1 v
      · rfl
      · cases decide (x.2.1.1 ≤ at_) <;> cases decide (at_ < x.2.1.2.1) <;> rfl)
    (by simp)]
  cases t.any (rIn v at_)
  · simp only [cond_false, Option.bind_some]
    rw [iter_any (s0 := (((0 : Int), ()), (v, at_, ()))) c (fun j => (((j : Int), ()), (v, at_, ()))) (cIn v at_) (.inl (true, ())) (.inr ((), (v, at_, ()))) rfl (by omega)
      (fun j x hx => by
        have hj : decide ((j : Int) ≥ 0) = true := by simp
        simp only [lt_at hx, inR_at hx, rd_at hx, wrap_succ hx hl2, cond_true, cIn, hj]
        cases sEq x.1 v
        · rfl
        · cases decide (x.2.2.1 ≤ at_) <;> cases decide (at_ < x.2.2.2.1) <;> rfl)
      (by simp)]
    cases c.any (cIn v at_) <;> rfl
  · rfl
/-! ### equal lists -/
theorem zip_none {α : Type} {ne : α → α → Bool} (hne : ∀ a b, ne a b = false ↔ a = b) : ∀ {a b : List α}, a.length = b.length → ((List.zip a b).findIdx? (fun q => ne q.1 q.2) = none ↔ a = b)
  | [], [], _ => by simp
  | x :: a, y :: b, h => by
    have ih := zip_none hne (a := a) (b := b) (by simpa using h)
    rw [List.zip_cons_cons, List.findIdx?_cons]
    cases hq : ne x y
    · have := (hne x y).1 hq
      subst this
      simp [ih]
    · have : x ≠ y := fun e => by rw [(hne x y).2 e] at hq; cases hq
      simp [this]
open Classical in
noncomputable def s45 (a b : List ByteArray) : Bool := decide (a = b)
theorem h45 (a b : List ByteArray) (hw : WFs A45 (a, b, ())) : ∃ k, f45 k a b = some (s45 a b, ()) := by
  simp only [WFs, WF] at hw
  have hl : a.length ≤ 9223372036854775807 := hw.1.1
  clear hw
  refine ⟨a.length + 1, ?_⟩
  unfold f45 s45
  by_cases hlen : a.length = b.length
  · have e : ((a.length : Int) != (b.length : Int)) = false := by simp [hlen]
    simp only [e, cond_false]
    have hzl : (List.zip a b).length = a.length := by rw [List.length_zip]; omega
    rw [iter_find (s0 := (((0 : Int), ()), ())) (List.zip a b) (fun i => (((i : Int), ()), ())) (fun q => !sEq q.1 q.2) (fun i => .inl (false, ())) (.inr ((), ())) ?a1 ?a2 ?a3 ?a4]
    case a1 => rfl
    case a2 => omega
    case a3 =>
      intro j q hq
      obtain ⟨x, y⟩ := q
      obtain ⟨hx, hy⟩ := List.getElem?_zip_eq_some.1 hq
      simp only [lt_at hx, inR_at hx, inR_at hy, rd_at hx, rd_at hy, wrap_succ hx hl, cond_true]
      cases sEq x y <;> rfl
    case a4 => rw [hzl]; simp
    have := zip_none (ne := fun x y : ByteArray => !sEq x y) (fun x y => by rw [Bool.not_eq_false', sEq_iff]) hlen
    cases hf : (List.zip a b).findIdx? (fun q => !sEq q.1 q.2) with
    | none => simp [this.1 hf]
    | some i =>
      have : ¬ a = b := fun e => by rw [this.2 e] at hf; cases hf
      simp [this]
  · have e : ((a.length : Int) != (b.length : Int)) = true := by simp; omega
    have : ¬ a = b := fun e => hlen (by rw [e])
    simp [e, this]
end Go.Vm
