/- LevelsReckoned: what happens to a level. Own work. -/
import Derived.Test.YtfiembgemhonlaaLSpecA
set_option linter.unusedVariables false
set_option linter.unusedSimpArgs false
namespace Go.Vm
open Go.RowKit Go.Vm.Gain
section
variable {α γ ρ : Type}
/-- A LOOP THAT COLLECTS. -/
theorem collect {f : (List γ × Int × Unit) × Unit → Option (((List γ × Int × Unit) × Unit) ⊕ (ρ ⊕ ((List γ × Unit) × Unit)))} {k : Nat} (xs : List α) (g : α → Option γ) (acc : List γ) (hk : xs.length < k) (hlen : acc.length + xs.length ≤ 4294967296)
    (h1 : ∀ (j : Nat) (x : α) (b : List γ), xs[j]? = some x → b.length < 4294967296 → f ((b, (j : Int), ()), ()) = some (.inl (((match g x with | some y => b ++ [y] | none => b), ((j + 1 : Nat) : Int), ()), ())))
    (h2 : ∀ b, f ((b, (xs.length : Int), ()), ()) = some (.inr (.inr ((b, ()), ())))) : iter k f ((acc, (0 : Int), ()), ()) = some (.inr ((acc ++ xs.filterMap g, ()), ())) := by
  rw [iter_scanI (s0 := ((acc, (0 : Int), ()), ())) (β := List γ) xs (fun j b => ((b, (j : Int), ()), ())) (fun _ x b => .inl (match g x with | some y => b ++ [y] | none => b)) (fun b => .inr ((b, ()), ())) (fun j b => b.length ≤ acc.length + j) acc (Nat.le_refl _) rfl hk ?_ ?_ ?_]
  · congr 1
    have key : ∀ (l : List α) (j : Nat) (b : List γ), scan (β := List γ) (τ := ρ ⊕ ((List γ × Unit) × Unit)) (fun _ x b => .inl (match g x with | some y => b ++ [y] | none => b)) (fun b => .inr ((b, ()), ())) l j b = .inr ((b ++ l.filterMap g, ()), ()) := by
      intro l
      induction l with
      | nil => intro j b; simp [scan]
      | cons x l ih =>
        intro j b
        simp only [scan, ih, List.filterMap_cons]
        cases g x <;> simp
    rw [key]
  · intro j x b b' hx hb h
    cases h
    cases g x with
    | none => simp only; omega
    | some y => simp only [List.length_append, List.length_singleton]; omega
  · intro j x b hx hb
    have := (List.getElem?_eq_some_iff.1 hx).1
    rw [h1 j x b hx (by omega)]
  · intro b _
    exact h2 b
end
/-! ### the order -/
def s267 (a b : Trn) : Int := nz [s128 a.1 b.1, s128 a.2.1 b.2.1]
theorem h267 (a b : Trn) (hw : WFs A267 (a, b, ())) : ∃ k, f267 s127 s128 k a b = some (s267 a b, ()) := ⟨0, rfl⟩
def cmpB (ys : List Int) (j : Nat) (x : Int) (_ : Unit) : Unit ⊕ ((Int × Unit) ⊕ (Unit × Unit)) :=
  match ys[j]? with
  | none => .inr (.inl (1, ()))
  | some y => bif s128 x y != 0 then .inr (.inl (s128 x y, ())) else .inl ()
def s220 (xs ys : List Int) : Int := match scan (cmpB ys) (fun _ => .inr ((), ())) xs 0 () with
  | .inl z => z.1
  | .inr _ => if xs.length < ys.length then -1 else 0
theorem h220 (xs ys : List Int) (hw : WFs A220 (xs, ys, ())) : ∃ k, f220 s128 k xs ys = some (s220 xs ys, ()) := by
  simp only [WFs, WF] at hw
  have hl := hw.1.1
  refine ⟨xs.length + 1, ?_⟩
  unfold f220 s220
  rw [iter_scan0 (β := Unit) xs (fun j _ => (((j : Int), ()), ())) (cmpB ys) (fun _ => .inr ((), ())) () ?hs ?hk ?h1 ?h2]
  · simp only [Option.bind_some]
    cases scan (cmpB ys) (fun _ => Sum.inr ((), ())) xs 0 () with
    | inl z => rfl
    | inr z =>
      by_cases h : xs.length < ys.length
      · have : decide (((xs.length : Nat) : Int) < ((ys.length : Nat) : Int)) = true := decide_eq_true (by omega)
        simp only [this, cond_true, if_pos h]
      · have : decide (((xs.length : Nat) : Int) < ((ys.length : Nat) : Int)) = false := decide_eq_false (by omega)
        simp only [this, cond_false, if_neg h]
  case hs => rfl
  case hk => exact Nat.lt_succ_self _
  · intro j x b hx
    simp only [lt_at hx, inR_at hx, rd_at hx, wrap_succ hx hl, cond_true]
    unfold cmpB
    cases hy : ys[j]? with
    | none =>
      have : decide ((j : Int) ≥ ((ys.length : Nat) : Int)) = true := by
        have := List.getElem?_eq_none_iff.1 hy
        exact decide_eq_true (by omega)
      simp only [this, cond_true]
    | some y =>
      have : decide ((j : Int) ≥ ((ys.length : Nat) : Int)) = false := by
        have := (List.getElem?_eq_some_iff.1 hy).1
        exact decide_eq_false (by omega)
      simp only [this, cond_false, inR_at hy, rd_at hy, cond_true]
      cases s128 x y != 0 <;> rfl
  · intro b
    simp
def s219 (a b : Trn) : Int := s220 [a.1, a.2.1] [b.1, b.2.1]
theorem h219 (a b : Trn) (hw : WFs A219 (a, b, ())) : ∃ k, f219 s220 k a b = some (s219 a b, ()) := ⟨0, rfl⟩
theorem s219_eq : s219 = s267 := by
  funext a b
  unfold s219 s267 s220
  simp only [scan, cmpB, List.getElem?_cons_zero, List.getElem?_cons_succ, nz]
  by_cases h1 : s128 a.1 b.1 = 0
  · have e1 : (s128 a.1 b.1 != 0) = false := by simp [h1]
    simp only [e1, cond_false, if_pos h1]
    by_cases h2 : s128 a.2.1 b.2.1 = 0
    · have e2 : (s128 a.2.1 b.2.1 != 0) = false := by simp [h2]
      simp [e2, h2]
    · have e2 : (s128 a.2.1 b.2.1 != 0) = true := by simp [h2]
      simp [e2, h2]
  · have e1 : (s128 a.1 b.1 != 0) = true := by simp [h1]
    simp [e1, h1]
theorem lt267 (a b : Trn) : ltOf s267 a b = true ↔ a.1 < b.1 ∨ (a.1 = b.1 ∧ a.2.1 < b.2.1) := by
  unfold ltOf s267
  simp only [nz, s128, decide_eq_true_eq]
  by_cases h1 : a.1 < b.1
  · simp [h1]
  · by_cases h2 : a.1 > b.1
    · simp [h1, h2]; omega
    · have h3 : a.1 = b.1 := by omega
      by_cases h4 : a.2.1 < b.2.1
      · simp [h3, h4]
      · by_cases h5 : a.2.1 > b.2.1 <;> simp [h3, h4, h5]
theorem W267 : Weak (ltOf s267) := by
  have no : ∀ a b : Trn, ltOf s267 a b = false ↔ ¬ (a.1 < b.1 ∨ (a.1 = b.1 ∧ a.2.1 < b.2.1)) := fun a b => by rw [← lt267, Bool.not_eq_true]
  refine ⟨fun x => ?_, fun x y z h1 h2 => ?_, fun x y z h1 h2 => ?_⟩
  · rw [no]; omega
  · rw [lt267] at *; omega
  · rw [no] at *; omega
abbrev ltT := ltOf s267
def s266 (xs : List Trn) : Option (List Trn) := if xs.length ≤ 4294967296 then some (stab ltT xs) else none
def s218 (xs : List Trn) : Option (List Trn) := if xs.length ≤ 4294967296 then some (stab (ltOf s219) xs) else none
theorem W219 : Weak (ltOf s219) := by rw [s219_eq]; exact W267
/-! ### the things that happen -/
def ownR (v : ByteArray) (r : Run) : Option Run := bif sEq r.1 v then some r else none
def thC (v : ByteArray) (c : Chg) : Option Trn := bif sEq c.1 v then bif decide (c.2.2.2.1 ≥ 0) then some (c.2.2.2.1, 0, c.2.2.2.2.1, ()) else none else none
def thR (v : ByteArray) (r : Run) : Option Trn := bif sEq r.1 v then some (r.2.1.2.1, 1, r.2.2.2.1, ()) else none
def things (v : ByteArray) (t : List Run) (c : List Chg) : List Trn := c.filterMap (thC v) ++ t.filterMap (thR v)
theorem things_len (v : ByteArray) (t : List Run) (c : List Chg) : (things v t c).length ≤ t.length + c.length := by
  unfold things
  have h1 := List.length_filterMap_le (thC v) c
  have h2 := List.length_filterMap_le (thR v) t
  simp only [List.length_append]; omega
def s147 (t : List Run) (v : ByteArray) : Option (List Run × Unit) := if t.length ≤ 4294967295 then some (t.filterMap (ownR v), ()) else none
theorem h147 (t : List Run) (v : ByteArray) (y : List Run × Unit) (hw : WFs A147 (t, v, ())) (h : s147 t v = some y) : ∃ k, f147 k t v = some y := by
  unfold s147 at h
  split at h
  · rename_i hn
    cases h
    refine ⟨t.length + 1, ?_⟩
    unfold f147
    rw [collect t (ownR v) [] (Nat.lt_succ_self _) (by simp; omega) ?h1 ?h2]
    · simp
    · intro j x b hx hb
      simp only [lt_at hx, inR_at hx, rd_at hx, wrap_succ hx (by omega), cond_true, ownR]
      have : decide (b.length + [x].length ≤ 4294967296) = true := decide_eq_true (by simp only [List.length_singleton]; omega)
      cases sEq x.1 v <;> simp only [cond_true, cond_false, this]
    · intro b
      simp
  · cases h
def trns (v : ByteArray) (t : List Run) (c : List Chg) : List Trn := stab ltT (things v t c)
def s217 (v : ByteArray) (t : List Run) (c : List Chg) : Option (List Trn × Unit) := if t.length + c.length ≤ 4294967295 then some (trns v t c, ()) else none
theorem h217 (v : ByteArray) (t : List Run) (c : List Chg) (y : List Trn × Unit) (hw : WFs A217 (v, t, c, ())) (h : s217 v t c = some y) : ∃ k, f217 s147 s266 k v t c = some y := by
  unfold s217 at h
  split at h
  · rename_i hn
    cases h
    refine ⟨t.length + c.length + 1, ?_⟩
    unfold f217
    rw [collect c (thC v) [] (by omega) (by simp; omega) ?h1 ?h2]
    · simp only [Option.bind_some]
      rw [show s147 t v = some (t.filterMap (ownR v), ()) from by unfold s147; rw [if_pos (by omega)]]
      simp only [Option.bind_some, List.nil_append]
      have hl := List.length_filterMap_le (thC v) c
      have hl2 := List.length_filterMap_le (ownR v) t
      rw [collect (t.filterMap (ownR v)) (fun r => some ((r.2.1.2.1, 1, r.2.2.2.1, ()) : Trn)) (c.filterMap (thC v)) (k := t.length + c.length + 1) (by omega) (by omega) ?h3 ?h4]
      · simp only [Option.bind_some]
        have e : c.filterMap (thC v) ++ (t.filterMap (ownR v)).filterMap (fun r => some ((r.2.1.2.1, 1, r.2.2.2.1, ()) : Trn)) = things v t c := by
          unfold things
          congr 1
          rw [List.filterMap_filterMap]
          congr 1
          funext r
          unfold ownR thR
          cases sEq r.1 v <;> rfl
        rw [e]
        have := things_len v t c
        unfold s266 trns
        rw [if_pos (by omega)]
        rfl
      · intro j x b hx hb
        simp only [lt_at hx, inR_at hx, rd_at hx, wrap_succ hx (by omega), cond_true]
        have : decide (b.length + [((x.2.1.2.1, 1, x.2.2.2.1, ()) : Trn)].length ≤ 4294967296) = true := decide_eq_true (by simp only [List.length_singleton]; omega)
        simp only [this, cond_true]
      · intro b
        simp
    · intro j x b hx hb
      simp only [lt_at hx, inR_at hx, rd_at hx, wrap_succ hx (by omega), cond_true, thC]
      have : decide (b.length + [((x.2.2.2.1, 0, x.2.2.2.2.1, ()) : Trn)].length ≤ 4294967296) = true := decide_eq_true (by simp only [List.length_singleton]; omega)
      cases sEq x.1 v
      · rfl
      · cases decide (x.2.2.2.1 ≥ 0) <;> simp only [cond_true, cond_false, this]
    · intro b
      simp
  · cases h
/-! ### levels -/
def stp (n : Int) (t : Trn) : Int := bif t.2.1 == 0 then (if decide (t.2.2.1 > n) then t.2.2.1 else n) else IntKind.i64.wrap (n - t.2.2.1)
def lvs : Int → List Trn → List Int
  | _, [] => []
  | n, t :: l => stp n t :: lvs (stp n t) l
def brk (at_ : Int) : Int → List Trn → Int
  | n, [] => n
  | n, t :: l => bif decide (t.1 > at_) then n else brk at_ (stp n t) l
def s137 (v : ByteArray) (t : List Run) (c : List Chg) (st at_ : Int) : Option (Int × Unit) := if t.length + c.length ≤ 4294967295 then some (brk at_ st (trns v t c), ()) else none
theorem trns_len (v : ByteArray) (t : List Run) (c : List Chg) : (trns v t c).length ≤ t.length + c.length := by
  have := (stab_same W267 (things v t c)).1
  have h2 := things_len v t c
  show (stab (ltOf s267) (things v t c)).length ≤ _
  omega
theorem h137 (v : ByteArray) (t : List Run) (c : List Chg) (st at_ : Int) (y : Int × Unit) (hw : WFs A137 (v, t, c, st, at_, ())) (h : s137 v t c st at_ = some y) : ∃ k, f137 s217 k v t c st at_ = some y := by
  unfold s137 at h
  split at h
  · rename_i hn
    cases h
    refine ⟨t.length + c.length + 1, ?_⟩
    unfold f137
    rw [show s217 v t c = some (trns v t c, ()) from by unfold s217; rw [if_pos hn]]
    simp only [Option.bind_some]
    have hl := trns_len v t c
    generalize trns v t c = l at *
    rw [iter_scan0 (β := Int) l (fun j n => ((n, (j : Int), ()), (n, ()))) (fun _ t n => bif decide (t.1 > at_) then .inr (.inl (n, ())) else .inl (stp n t)) (fun n => .inr ((), (n, ()))) st ?hs ?hk ?h1 ?h2]
    · have key : ∀ (l : List Trn) (j : Nat) (n : Int), (Option.bind (some (scan (β := Int) (τ := (Int × Unit) ⊕ (Unit × (Int × Unit))) (fun _ (t : Trn) n => bif decide (t.1 > at_) then .inr (.inl (n, ())) else .inl (stp n t)) (fun n => .inr ((), (n, ()))) l j n)) fun r => match r with | .inl z => some z | .inr z4 => some (z4.2.1, ())) = some (brk at_ n l, ()) := by
        intro l
        induction l with
        | nil => intro j n; rfl
        | cons t l ih =>
          intro j n
          simp only [scan, brk]
          cases decide (t.1 > at_)
          · exact ih (j + 1) (stp n t)
          · rfl
      exact key l 0 st
    case hs => rfl
    case hk => omega
    · intro j x b hx
      simp only [lt_at hx, inR_at hx, rd_at hx, wrap_succ hx (by omega), cond_true, stp]
      cases decide (x.1 > at_)
      · simp only [cond_false]
        cases x.2.1 == 0 <;> rfl
      · rfl
    · intro b
      simp
  · cases h
end Go.Vm
