/- VehiclesReady: the law. Own work. -/
import Derived.Test.YtjkidhjkpkcnhaaGreatDoorVSpecD
set_option maxRecDepth 100000
set_option linter.unusedVariables false
set_option linter.unusedSimpArgs false
namespace Go.Vm
open Go.RowKit
def s4 (vs : List Veh) (sv : List Svc) (t : List Run) (c : List Chg) (v : ByteArray) (f at_ need : Int) (st : List Par) : Option (Bool × Unit) :=
  if smOK st = true ∧ vs.length ≤ 4294967295 ∧ sv.length ≤ 4294967295 ∧ st.length ≤ 4294967295 ∧ t.length + c.length ≤ 4294967290 then some (true, ()) else none
theorem due_fault (a b c x y : Int) : (bif decide (x < 0) then (some (.inr ((nz [a, b, c, s35 true 1], ()), ())) : Option ((Bool × Unit) ⊕ ((Int × Unit) × Unit))) else bif decide (x > y) then some (.inr ((nz [a, b, c, s35 true 1], ()), ())) else some (.inr ((nz [a, b, c, s35 (!s37 y) 1], ()), ()))) = some (.inr ((nz [a, b, c, s35 (s74 x 0 y || !s37 y) 1], ()), ())) := by
  unfold s74
  cases decide (x < 0)
  · cases decide (x > y)
    · simp only [cond_false, Bool.or_self, Bool.false_or]
    · rfl
  · rfl
def dueErr (a : Int) (k o : Bool) : Int := if a = 0 then (if k then 5 else if o then 1 else 0) else a
theorem nz_due (a b : Int) (k o : Bool) : nz [a, b, s35 k 5, s35 o 1] = dueErr (nz [a, b]) k o := by
  unfold dueErr s35
  simp only [nz]
  cases k <;> cases o <;> by_cases ha : a = 0 <;> by_cases hb : b = 0 <;> simp [ha, hb]
theorem need_fault (a b c d x e : Int) : (bif decide (x < (0 : Int)) then (some (.inr ((nz [a, b, c, d, s35 true 1, e], ()), ())) : Option ((Bool × Unit) ⊕ ((Int × Unit) × Unit))) else some (.inr ((nz [a, b, c, d, s35 (decide (x > (1000000 : Int))) 1, e], ()), ()))) = some (.inr ((nz [a, b, c, d, s35 (s74 x 0 1000000) 1, e], ()), ())) := by
  unfold s74
  cases decide (x < 0) <;> rfl
def readyErr (B L : Int) (n m s : Bool) : Int := bif B != 0 then B else bif L != 0 then L else bif n then 1 else bif m then 1 else bif s then 1 else 0
theorem nz_ready (a b c L : Int) (n m s : Bool) : nz [nz [a, b, c, L, s35 n 1, s35 m 1], bif s then 1 else 0] = readyErr (nz [a, b, c]) L n m s := by
  unfold readyErr s35
  simp only [nz]
  by_cases ha : a = 0
  · by_cases hb : b = 0
    · by_cases hc : c = 0
      · by_cases hl : L = 0
        · cases n <;> cases m <;> cases s <;> simp [ha, hb, hc, hl]
        · simp [ha, hb, hc, hl, show (L != 0) = true from by simpa using hl]
      · simp [ha, hb, hc, show (c != 0) = true from by simpa using hc]
    · simp [ha, hb, show (b != 0) = true from by simpa using hb]
  · simp [ha, show (a != 0) = true from by simpa using ha]
theorem h4 (vs : List Veh) (sv : List Svc) (t : List Run) (c : List Chg) (v : ByteArray) (f at_ need : Int) (st : List Par) (y : Bool × Unit) (hw : WFs A4 (vs, sv, t, c, v, f, at_, need, st, ())) (h : s4 vs sv t c v f at_ need st = some y) :
    ∃ k, f4 s18 s26 s27 s28 s29 s30 s31 s32 s33 s34 s35 s36 s37 s38 s39 s40 s41 s42 s43 s44 s45 s46 k vs sv t c v f at_ need st = some y := by
  unfold s4 at h
  split at h
  rotate_left
  · cases h
  rename_i hn
  obtain ⟨hs, hv, hsv, hst, htc⟩ := hn
  cases h
  refine ⟨0, ?_⟩
  unfold f4
  have e27 : s27 sv = some (sv, ()) := by unfold s27; rw [if_pos (by omega)]
  have e28 : s28 t = some (t, ()) := by unfold s28; rw [if_pos (by omega)]
  have e30 : s30 vs = some (vs, ()) := by unfold s30; rw [if_pos (by omega)]
  have e31 : s31 c = some (c, ()) := by unfold s31; rw [if_pos (by omega)]
  have e32 : s32 st = some (st, ()) := by unfold s32; rw [if_pos (by omega)]
  have e40 : s40 st = some (lvsFault st, ()) := by unfold s40; rw [if_pos hs]
  have e42 : s42 vs st = some (bif startAny vs st then 1 else 0, ()) := by unfold s42; rw [if_pos hs]
  have e43 : s43 sv t v f at_ = some (dueL (dueSum v f at_ t) f at_ sv, ()) := by unfold s43; rw [if_pos (by omega)]
  have e44 : s44 vs t c st need at_ = some (vs.filterMap (readyG (levOf st) t c need at_), ()) := by unfold s44; rw [if_pos ⟨hs, hv, htc⟩]
  have e29 : s29 vs t c st need at_ = some (readyE vs t c st need at_) := by unfold s29; rw [if_pos ⟨hs, hv, hst, htc⟩]
  have e26 : s26 sv t v f at_ = some (bif nz [s84 sv, s85 t] != 0 then ([], nz [s84 sv, s85 t], ()) else bif !key v then ([], 5, ()) else bif s74 f 0 at_ then ([], 1, ()) else bif !s73 at_ then ([], 1, ()) else (dueL (dueSum v f at_ t) f at_ sv, 0, ())) := by
    unfold s26; rw [if_pos (by omega)]
  simp only [e27, e28, e30, e31, e32, e40, e42, e43, e44, e29, e26, Option.bind_some, s18, due_fault, need_fault, s36]
  have e1 : nz [s33 sv, s34 t, s35 (!key v) 5, s35 (s74 f 0 at_ || !s37 at_) 1] = dueErr (nz [s84 sv, s85 t]) (!key v) (s74 f 0 at_ || !s73 at_) := nz_due _ _ _ _
  have e2 : nz [nz [s38 vs, s34 t, s39 c, lvsFault st, s35 (s74 need 0 1000000) 1, s41 at_], bif startAny vs st then 1 else 0] = readyErr (nz [s87 vs, s85 t, s88 c]) (lvsFault st) (s74 need 0 1000000) (!s73 at_) (startAny vs st) := by
    have : s41 at_ = s35 (!s73 at_) 1 := by unfold s41 s73; rw [Bool.not_not]
    rw [this]
    exact nz_ready _ _ _ _ _ _ _
  rw [e1, e2]
  unfold readyE
  generalize nz [s84 sv, s85 t] = A
  generalize (!key v) = K
  generalize s74 f 0 at_ = O
  generalize (!s73 at_) = M
  generalize dueL (dueSum v f at_ t) f at_ sv = D
  generalize nz [s87 vs, s85 t, s88 c] = B
  generalize lvsFault st = L
  generalize s74 need 0 1000000 = N
  generalize startAny vs st = S
  generalize vs.filterMap (readyG (levOf st) t c need at_) = R
  have left : ∃ l e, (bif A != 0 then (([] : List ByteArray), A, ()) else bif K then ([], 5, ()) else bif O then ([], 1, ()) else bif M then ([], 1, ()) else (D, 0, ())) = (l, e, ()) ∧ dueErr A K (O || M) = e ∧ (e = 0 → l = D) ∧ (e ≠ 0 → l = []) := by
    unfold dueErr
    by_cases hA : A = 0
    · subst hA
      cases K <;> cases O <;> cases M <;> exact ⟨_, _, rfl, rfl, by simp, by simp⟩
    · have : (A != 0) = true := by simpa using hA
      rw [this]
      exact ⟨_, _, rfl, by rw [if_neg hA], fun h => absurd h hA, fun _ => rfl⟩
  have right : ∃ l e, (bif B != 0 then (([] : List ByteArray), B, ()) else bif L != 0 then ([], L, ()) else bif N then ([], 1, ()) else bif M then ([], 1, ()) else bif S then ([], 1, ()) else (R, 0, ())) = (l, e, ()) ∧ readyErr B L N M S = e ∧ (e = 0 → l = R) ∧ (e ≠ 0 → l = []) := by
    unfold readyErr
    by_cases hB : B = 0
    · subst hB
      by_cases hL : L = 0
      · subst hL
        cases N <;> cases M <;> cases S <;> exact ⟨_, _, rfl, rfl, by simp, by simp⟩
      · have : (L != 0) = true := by simpa using hL
        rw [this]
        exact ⟨_, _, rfl, rfl, fun h => absurd h hL, fun _ => rfl⟩
    · have : (B != 0) = true := by simpa using hB
      rw [this]
      exact ⟨_, _, rfl, rfl, fun h => absurd h hB, fun _ => rfl⟩
  obtain ⟨l1, er1, q1, q2, q3, q4⟩ := left
  obtain ⟨l2, er2, p1, p2, p3, p4⟩ := right
  rw [q1, q2, p1, p2]
  have hq : ∀ (x : List ByteArray) (e : Int) (d : List ByteArray), (e = 0 → x = d) → (e ≠ 0 → x = []) → (bif e == 0 then (some (.inr ((d, ()), ())) : Option ((Bool × Unit) ⊕ ((List ByteArray × Unit) × Unit))) else some (.inr (([], ()), ()))) = some (.inr ((x, ()), ())) := by
    intro x e d h1 h2
    by_cases he : e = 0
    · rw [h1 he, he]; rfl
    · rw [h2 he, show (e == 0) = false from by simpa using he]; rfl
  simp only [hq l1 er1 D q3 q4, hq l2 er2 R p3 p4, Option.bind_some, beq_self_eq_true, cond_true, s45, decide_true, s24_true]
end Go.Vm
