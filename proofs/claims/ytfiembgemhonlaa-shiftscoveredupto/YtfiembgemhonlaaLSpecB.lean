/- LevelsReckoned: what happens to a level. Own work. -/
import Derived.Test.YtfiembgemhonlaaLSpecA
set_option linter.unusedVariables false
set_option linter.unusedSimpArgs false
namespace Go.Vm
open Go.RowKit Go.Vm.Gain
section
variable {α γ ρ : Type}
/-- A LOOP THAT COLLECTS. -/
theorem collect {f : (List γ × Int × Unit) × Unit → Option (((List γ × Int × Unit) × Unit) ⊕ (ρ ⊕ ((List γ × Unit) × Unit)))} {k : Nat} (xs : List α) (g : α → Option γ) (acc : List γ) (hk : xs.length < k) (hlen : acc.length + xs.length ≤ 4294967296)
    (h1 : ∀ (j : Nat) (x : α) (b : List γ), xs[j]? = some x → b.length < 4294967296 → f ((b, (j : Int), ()), ()) = some (.inl (((match g x with | some y => b ++ [y] | none => b), ((j + 1 : Nat) : Int), ()), ())))
    (h2 : ∀ b, f ((b, (xs.length : Int), ()), ()) = some (.inr (.inr ((b, ()), ())))) : iter k f ((acc, (0 : Int), ()), ()) = some (.inr ((acc ++ xs.filterMap g, ()), ())) := by
  rw [iter_scanI (s0 := ((acc, (0 : Int), ()), ())) (β := List γ) xs (fun j b => ((b, (j : Int), ()), ())) (fun _ x b => .inl (match g x with | some y => b ++ [y] | none => b)) (fun b => .inr ((b, ()), ())) (fun j b => b.length ≤ acc.length + j) acc (Nat.le_refl _) rfl hk ?_ ?_ ?_]
  · congr 1
    have key : ∀ (l : List α) (j : Nat) (b : List γ), scan (β := List γ) (τ := ρ ⊕ ((List γ × Unit) × Unit)) (fun _ x b => .inl (match g x with | some y => b ++ [y] | none => b)) (fun b => .inr ((b, ()), ())) l j b = .inr ((b ++ l.filterMap g, ()), ()) := by
      intro l
      induction l with
      | nil => intro j b; simp [scan]
      | cons x l ih =>
        intro j b
        simp only [scan, ih, List.filterMap_cons]
        cases g x <;> simp
    rw [key]
  · intro j x b b' hx hb h
    cases h
    cases g x with
    | none => simp only; omega
    | some y => simp only [List.length_append, List.length_singleton]; omega
  · intro j x b hx hb
    have := (List.getElem?_eq_some_iff.1 hx).1
    rw [h1 j x b hx (by omega)]
  · intro b _
    exact h2 b
end
/-! ### the order -/
def s267 (a b : Trn) : Int := nz [s128 a.1 b.1, s128 a.2.1 b.2.1]
theorem lt267 (a b : Trn) : ltOf s267 a b = true ↔ a.1 < b.1 ∨ (a.1 = b.1 ∧ a.2.1 < b.2.1) := by
  unfold ltOf s267
  simp only [nz, s128, decide_eq_true_eq]
  by_cases h1 : a.1 < b.1
  · simp [h1]
  · by_cases h2 : a.1 > b.1
    · simp [h1, h2]; omega
    · have h3 : a.1 = b.1 := by omega
      by_cases h4 : a.2.1 < b.2.1
      · simp [h3, h4]
      · by_cases h5 : a.2.1 > b.2.1 <;> simp [h3, h4, h5]
theorem W267 : Weak (ltOf s267) := by
  have no : ∀ a b : Trn, ltOf s267 a b = false ↔ ¬ (a.1 < b.1 ∨ (a.1 = b.1 ∧ a.2.1 < b.2.1)) := fun a b => by rw [← lt267, Bool.not_eq_true]
  refine ⟨fun x => ?_, fun x y z h1 h2 => ?_, fun x y z h1 h2 => ?_⟩
  · rw [no]; omega
  · rw [lt267] at *; omega
  · rw [no] at *; omega
abbrev ltT := ltOf s267
/-! ### the things that happen -/
def ownR (v : ByteArray) (r : Run) : Option Run := bif sEq r.1 v then some r else none
def thC (v : ByteArray) (c : Chg) : Option Trn := bif sEq c.1 v then bif decide (c.2.2.2.1 ≥ 0) then some (c.2.2.2.1, 0, c.2.2.2.2.1, ()) else none else none
def thR (v : ByteArray) (r : Run) : Option Trn := bif sEq r.1 v then some (r.2.1.2.1, 1, r.2.2.2.1, ()) else none
def things (v : ByteArray) (t : List Run) (c : List Chg) : List Trn := c.filterMap (thC v) ++ t.filterMap (thR v)
def s147 (t : List Run) (v : ByteArray) : Option (List Run × Unit) := if t.length ≤ 4294967295 then some (t.filterMap (ownR v), ()) else none
theorem h147 (t : List Run) (v : ByteArray) (y : List Run × Unit) (hw : WFs A147 (t, v, ())) (h : s147 t v = some y) : ∃ k, f147 k t v = some y := by
  unfold s147 at h
  split at h
  · rename_i hn
    cases h
    refine ⟨t.length + 1, ?_⟩
    unfold f147
    rw [collect t (ownR v) [] (Nat.lt_succ_self _) (by simp; omega) ?h1 ?h2]
    · simp
    · intro j x b hx hb
      simp only [lt_at hx, inR_at hx, rd_at hx, wrap_succ hx (by omega), cond_true, ownR]
      have : decide (b.length + [x].length ≤ 4294967296) = true := decide_eq_true (by simp only [List.length_singleton]; omega)
      cases sEq x.1 v <;> simp only [cond_true, cond_false, this]
    · intro b
      simp
  · cases h
def trns (v : ByteArray) (t : List Run) (c : List Chg) : List Trn := stab ltT (things v t c)
/-! ### levels -/
def stp (n : Int) (t : Trn) : Int := bif t.2.1 == 0 then (if decide (t.2.2.1 > n) then t.2.2.1 else n) else IntKind.i64.wrap (n - t.2.2.1)
def lvs : Int → List Trn → List Int
  | _, [] => []
  | n, t :: l => stp n t :: lvs (stp n t) l
def brk (at_ : Int) : Int → List Trn → Int
  | n, [] => n
  | n, t :: l => bif decide (t.1 > at_) then n else brk at_ (stp n t) l
def s137 (v : ByteArray) (t : List Run) (c : List Chg) (st at_ : Int) : Option (Int × Unit) := if t.length + c.length ≤ 4294967295 then some (brk at_ st (trns v t c), ()) else none
end Go.Vm
