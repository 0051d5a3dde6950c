/- ShiftsCovered: when few are on. Own work. -/
import Derived.Test.YtfiembgemhonlaaSSpecB
set_option linter.unusedVariables false
set_option linter.unusedSimpArgs false
namespace Go.Vm
open Go.RowKit Go.Vm.Gain
def s144 (l : List Int) : Option (List Int) := sortInt? l
def ieq (a b : Int) : Bool := a == b
def s145 (l : List Int) : Option (List Int) := some (dedup ieq l)
theorem f145_eq (k : Nat) (xs : List Int) : f145 k xs = compactF (0 : Int) ieq (fun a b => a != b) k xs := by kernel_rfl
theorem h145 (xs ys : List Int) (hl : xs.length ≤ 9223372036854775807) (hw : WFs .nil ()) (hy : s145 xs = some ys) : ∃ k, f145 k xs = some ys := by
  unfold s145 at hy
  refine ⟨xs.length + 1, ?_⟩
  rw [← hy, f145_eq]
  exact compactF_ok (d := (0 : Int)) (eq := ieq) (ne := fun a b => a != b) (fun a b => rfl) xs hl
/-! ### lists that rise -/
theorem sort_up (l : List Int) : (sortInt l).Pairwise (· ≤ ·) := by
  have := List.pairwise_mergeSort (le := fun x y : Int => decide (x ≤ y)) (by simp; omega) (by simp; omega) l
  exact this.imp (fun h => by simpa using h)
theorem sort_mem {l : List Int} {x : Int} : x ∈ sortInt l ↔ x ∈ l := List.mem_mergeSort
theorem dedupFrom_up : ∀ (l : List Int) (p : Int), (p :: l).Pairwise (· ≤ ·) → (dedupFrom ieq p l).Pairwise (· < ·) ∧ (∀ x ∈ dedupFrom ieq p l, p < x) ∧ ∀ x, (x = p ∨ x ∈ dedupFrom ieq p l) ↔ (x = p ∨ x ∈ l)
  | [], p, _ => ⟨.nil, fun x h => (by cases h), fun x => Iff.rfl⟩
  | y :: l, p, h => by
    obtain ⟨h1, h2⟩ := List.pairwise_cons.1 h
    obtain ⟨k1, k2, k3⟩ := dedupFrom_up l y h2
    have hpy := h1 y (List.mem_cons_self ..)
    simp only [dedupFrom, ieq]
    by_cases e : y = p
    · subst e
      simp only [beq_self_eq_true, cond_true]
      refine ⟨k1, k2, fun x => ?_⟩
      rw [k3 x, List.mem_cons]
      constructor
      · rintro (h | h) <;> simp [h]
      · rintro (h | h | h) <;> simp [h]
    · have : (y == p) = false := by simpa using e
      simp only [this, cond_false]
      refine ⟨List.pairwise_cons.2 ⟨k2, k1⟩, fun x hx => ?_, fun x => ?_⟩
      · rcases List.mem_cons.1 hx with rfl | hx
        · omega
        · have := k2 x hx; omega
      · rw [List.mem_cons, List.mem_cons]
        exact or_congr Iff.rfl (k3 x)
theorem dedup_up {l : List Int} (h : l.Pairwise (· ≤ ·)) : (dedup ieq l).Pairwise (· < ·) ∧ ∀ x, x ∈ dedup ieq l ↔ x ∈ l := by
  cases l with
  | nil => exact ⟨.nil, fun x => Iff.rfl⟩
  | cons p l =>
    obtain ⟨k1, k2, k3⟩ := dedupFrom_up l p h
    refine ⟨List.pairwise_cons.2 ⟨k2, k1⟩, fun x => ?_⟩
    simp only [dedup, List.mem_cons]
    exact k3 x
theorem up_ext : ∀ {a b : List Int}, a.Pairwise (· < ·) → b.Pairwise (· < ·) → (∀ x, x ∈ a ↔ x ∈ b) → a = b
  | [], [], _, _, _ => rfl
  | [], y :: b, _, _, h => by have := (h y).2 (List.mem_cons_self ..); cases this
  | x :: a, [], _, _, h => by have := (h x).1 (List.mem_cons_self ..); cases this
  | x :: a, y :: b, ha, hb, h => by
    obtain ⟨a1, a2⟩ := List.pairwise_cons.1 ha
    obtain ⟨b1, b2⟩ := List.pairwise_cons.1 hb
    have hxy : x = y := by
      have h1 := (h x).1 (List.mem_cons_self ..)
      have h2 := (h y).2 (List.mem_cons_self ..)
      rcases List.mem_cons.1 h1 with e | h1
      · exact e
      · rcases List.mem_cons.1 h2 with e | h2
        · exact e.symm
        · have := a1 y h2; have := b1 x h1; omega
    subst hxy
    rw [up_ext a2 b2 fun z => ?_]
    constructor
    · intro hz
      have := a1 z hz
      rcases List.mem_cons.1 ((h z).1 (List.mem_cons_of_mem _ hz)) with e | h'
      · omega
      · exact h'
    · intro hz
      have := b1 z hz
      rcases List.mem_cons.1 ((h z).2 (List.mem_cons_of_mem _ hz)) with e | h'
      · omega
      · exact h'
/-! ### the moments at which something changes -/
theorem fold_filter {α : Type} (p : α → Bool) : ∀ (l acc : List α), l.foldl (fun acc t => bif p t then acc ++ [t] else acc) acc = acc ++ l.filter p
  | [], acc => by simp
  | x :: l, acc => by
    simp only [List.foldl_cons, fold_filter p l, List.filter_cons]
    cases p x <;> simp
def edges (p : Int → Bool) (l : List Wd) (acc : List Int) : List Int := l.foldl (fun acc x => acc ++ [x.1, x.2.1].filter p) acc
theorem edges_mem (p : Int → Bool) (t : Int) : ∀ (l : List Wd) (acc : List Int), t ∈ edges p l acc ↔ t ∈ acc ∨ ∃ x ∈ l, (t = x.1 ∨ t = x.2.1) ∧ p t = true
  | [], acc => by simp [edges]
  | x :: l, acc => by
    have := edges_mem p t l (acc ++ [x.1, x.2.1].filter p)
    simp only [edges, List.foldl_cons] at this ⊢
    rw [this]
    simp only [List.mem_append, List.mem_filter, List.mem_cons, List.not_mem_nil, or_false]
    constructor
    · rintro ((h | ⟨h1, h2⟩) | ⟨y, h1, h2⟩)
      · exact .inl h
      · exact .inr ⟨x, .inl rfl, h1, h2⟩
      · exact .inr ⟨y, .inr h1, h2⟩
    · rintro (h | ⟨y, (rfl | h1), h2⟩)
      · exact .inl (.inl h)
      · exact .inl (.inr h2)
      · exact .inr ⟨y, h1, h2⟩
theorem edges_len (p : Int → Bool) : ∀ (l : List Wd) (acc : List Int), (edges p l acc).length ≤ acc.length + 2 * l.length
  | [], acc => by simp [edges]
  | x :: l, acc => by
    have := edges_len p l (acc ++ [x.1, x.2.1].filter p)
    have h2 := List.length_filter_le p [x.1, x.2.1]
    simp only [edges, List.foldl_cons, List.length_append, List.length_cons, List.length_nil] at this h2 ⊢
    omega
def times (l : List Wd) (w : Wd) : List Int := dedup ieq (sortInt (edges (fun t => decide (t > w.1) && decide (t < w.2.1)) l [w.1, w.2.1]))
theorem times_ref (l : List Wd) (w : Wd) : dedup ieq (sortInt (edges (fun t => s150 t w) l [w.1, w.2.1])) = times l w := by
  obtain ⟨a1, a2⟩ := dedup_up (sort_up (edges (fun t => s150 t w) l [w.1, w.2.1]))
  obtain ⟨b1, b2⟩ := dedup_up (sort_up (edges (fun t => decide (t > w.1) && decide (t < w.2.1)) l [w.1, w.2.1]))
  refine up_ext a1 b1 fun x => ?_
  show x ∈ dedup ieq _ ↔ x ∈ dedup ieq _
  rw [a2, b2, sort_mem, sort_mem, edges_mem, edges_mem]
  simp only [s150, Bool.and_eq_true, decide_eq_true_eq, List.mem_cons, List.not_mem_nil, or_false]
  constructor
  · rintro (h | ⟨y, h1, h2, h3⟩)
    · exact .inl h
    · by_cases e : x = w.1
      · exact .inl (.inl e)
      · exact .inr ⟨y, h1, h2, by omega⟩
  · rintro (h | ⟨y, h1, h2, h3⟩)
    · exact .inl h
    · exact .inr ⟨y, h1, h2, by omega⟩
theorem times_ne (l : List Wd) (w : Wd) : times l w ≠ [] := by
  intro h
  have := ((dedup_up (sort_up (edges (fun t => decide (t > w.1) && decide (t < w.2.1)) l [w.1, w.2.1]))).2 w.1).2 (sort_mem.2 ((edges_mem _ _ _ _).2 (.inl (by simp))))
  unfold times at h
  rw [h] at this
  cases this
theorem times_len (l : List Wd) (w : Wd) : (times l w).length ≤ 2 + 2 * l.length := by
  unfold times
  refine Nat.le_trans (dedup_len _ _) ?_
  rw [show (sortInt _).length = _ from List.length_mergeSort _]
  exact edges_len _ _ _
/-- the moments between which few are on -/
def thinStep (l : List Wd) (many : Int) (p : Int × Int) (out : List Wd) : List Wd :=
  if s149 l p.1 ≥ many then out else
    match out.getLast? with
    | some o => if o.2.1 == p.1 then out.set (out.length - 1) (o.1, p.2, o.2.2) else out ++ [(p.1, p.2, ())]
    | none => out ++ [(p.1, p.2, ())]
def thin (l : List Wd) (many : Int) (ts : List Int) : List Wd := (List.zip ts (ts.drop 1)).foldl (fun out p => thinStep l many p out) []
theorem thinStep_len (l : List Wd) (many : Int) (p : Int × Int) (out : List Wd) : (thinStep l many p out).length ≤ out.length + 1 := by
  unfold thinStep
  split
  · omega
  · split
    · split <;> simp
    · simp
theorem zip_at {ts : List Int} {j : Nat} {p : Int × Int} (h : (List.zip ts (ts.drop 1))[j]? = some p) : ts[j]? = some p.1 ∧ ts[j + 1]? = some p.2 := by
  obtain ⟨a, b⟩ := p
  obtain ⟨h1, h2⟩ := List.getElem?_zip_eq_some.1 h
  rw [List.getElem?_drop, Nat.add_comm] at h2
  exact ⟨h1, h2⟩
end Go.Vm
