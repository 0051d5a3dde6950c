/- ShiftsCovered: small functions; drivers and rosters. Own work. -/
import Derived.Test.YtfiembgemhonlaaLSpec
import Derived.Test.YtfiembgemhonlaaSFn
import Derived.Test.YtfiembgemhonlaaVmK
set_option linter.unusedVariables false
set_option linter.unusedSimpArgs false
namespace Go.Vm
open Go.RowKit Go.Vm.Gain
/-! ### windows, rests, moments -/
def winBad (w : Wd) : Bool := s114 w.1 0 w.2.1 || decide (w.2.1 > 345686400000)
def s51 (w : Wd) : Int := bif winBad w then 1 else 0
def restBad (r : Int × Int × Unit) : Bool := s114 r.1 1 86400000 || s114 r.2.1 1 86400000
def s52 (r : Int × Int × Unit) : Int := bif restBad r then 1 else 0
def s150 (t : Int) (w : Wd) : Bool := decide (w.1 ≤ t) && decide (t < w.2.1)
def s149 (l : List Wd) (t : Int) : Int := (l.countP (s150 t) : Int)
def dOf (l : List Wd) : Int := l.foldl (fun m w => if s149 l w.1 > m then s149 l w.1 else m) 0
def s54 (l : List Wd) : Option (Int × Unit) := some (dOf l, ())
/-! ### right shifts -/
structure Shifts (l : List Wd) : Prop where
  ok : ∀ w ∈ l, 0 ≤ w.1 ∧ w.1 < w.2.1 ∧ w.2.1 ≤ 345686400000
  up : l.Pairwise fun a b => a.1 ≤ b.1
theorem s148_neg (a b : Wd) (h : ¬ s148 a b < 0) : b.1 ≤ a.1 := by
  unfold s148 at h
  simp only [nz, s128] at h
  by_cases h1 : a.1 < b.1
  · simp [h1] at h
  · omega
theorem shB_scan : ∀ (l : List Wd) (j : Nat) (p : Option Wd), out1 (scan (fun _ => shB) (fun _ => .inr ((), ())) l j p) = 0 → (∀ w ∈ l, shBad w = false) ∧ l.Pairwise (fun a b => a.1 ≤ b.1) ∧ ∀ o, p = some o → ∀ w ∈ l, o.1 ≤ w.1
  | [], j, p, _ => ⟨fun w h => (by cases h), .nil, fun o _ w h => (by cases h)⟩
  | x :: l, j, p, h => by
    simp only [scan] at h
    cases hb : shB x p with
    | inr t =>
      rw [hb] at h
      unfold shB at hb
      cases hx : shBad x <;> rw [hx] at hb
      · cases p with
        | none => cases hb
        | some o =>
          simp only [cond_false] at hb
          cases hd : decide (s148 x o < 0) <;> rw [hd] at hb <;> cases hb
          cases h
      · cases hb; cases h
    | inl p' =>
      rw [hb] at h
      obtain ⟨h1, h2, h3⟩ := shB_next hb
      subst h2
      obtain ⟨k1, k2, k3⟩ := shB_scan l (j + 1) _ h
      refine ⟨fun w hw => ?_, List.pairwise_cons.2 ⟨fun w hw => k3 x rfl w hw, k2⟩, fun o ho w hw => ?_⟩
      · rcases List.mem_cons.1 hw with rfl | hw
        · exact h1
        · exact k1 w hw
      · have := s148_neg x o (h3 o ho)
        rcases List.mem_cons.1 hw with rfl | hw
        · exact this
        · exact Int.le_trans this (k3 x rfl w hw)
theorem shifts_of {l : List Wd} (h : shiftsFault l = 0) : Shifts l ∧ l.length ≤ 500 := by
  refine ⟨?_, shift_len h⟩
  unfold shiftsFault at h
  split at h
  · cases h
  · obtain ⟨h1, h2, _⟩ := shB_scan _ _ _ h
    refine ⟨fun w hw => ?_, h2⟩
    have := h1 w hw
    simp only [shBad, Bool.or_eq_false_iff, decide_eq_false_iff_not] at this
    omega
/-! ### what the rosters are -/
/-- who is free when, and whose the shifts are that there were -/
structure RInv (pre : List Wd) (b : List Int × List Int) : Prop where
  len : b.2.length = pre.length
  few : b.1.length ≤ pre.length
  busy : ∀ t, (∀ w ∈ pre, w.1 ≤ t) → pre.countP (fun w => decide (t < w.2.1)) = b.1.countP (fun f => decide (t < f))
  most : ∀ t, pre.countP (s150 t) ≤ b.1.length
  full : b.1 = [] ∨ ∃ w ∈ pre, b.1.length ≤ pre.countP (s150 w.1)
  whose : ∀ (n : Nat) (t : Int), ((List.zip b.2 pre).any fun p => p.1 == (n : Int) && decide (t < p.2.2.1)) = true ↔ ∃ f, b.1[n]? = some f ∧ t < f
theorem countP_le_mono {α : Type} {p q : α → Bool} (l : List α) (h : ∀ x ∈ l, p x = true → q x = true) : l.countP p ≤ l.countP q := by
  induction l with
  | nil => simp
  | cons x l ih =>
    have h1 := ih (fun y hy => h y (List.mem_cons_of_mem _ hy))
    simp only [List.countP_cons]
    by_cases hp : p x = true
    · rw [if_pos hp, if_pos (h x (List.mem_cons_self ..) hp)]; omega
    · rw [if_neg hp]; omega
theorem countP_eq_of {α : Type} {p q : α → Bool} (l : List α) (h : ∀ x ∈ l, p x = q x) : l.countP p = l.countP q := by
  apply Nat.le_antisymm
  · exact countP_le_mono l (fun x hx hp => by rw [← h x hx]; exact hp)
  · exact countP_le_mono l (fun x hx hp => by rw [h x hx]; exact hp)
theorem countP_set {p : Int → Bool} : ∀ (l : List Int) (k : Nat) (v x : Int), l[k]? = some x → p x = false → (l.set k v).countP p = l.countP p + (if p v then 1 else 0)
  | [], k, v, x, h, _ => by cases h
  | y :: l, 0, v, x, h, hp => by
    simp only [List.getElem?_cons_zero, Option.some.injEq] at h
    subst h
    simp [List.countP_cons, hp]
  | y :: l, k + 1, v, x, h, hp => by
    simp only [List.getElem?_cons_succ] at h
    simp only [List.set_cons_succ, List.countP_cons, countP_set l k v x h hp]
    omega
theorem findIdx_some {p : Int → Bool} {l : List Int} {k : Nat} (h : l.findIdx? p = some k) : (∃ x, l[k]? = some x ∧ p x = true) ∧ ∀ m x, m < k → l[m]? = some x → p x = false := by
  obtain ⟨h1, h2, h3⟩ := List.findIdx?_eq_some_iff_getElem.1 h
  refine ⟨⟨l[k], List.getElem?_eq_getElem h1, h2⟩, fun m x hm hx => ?_⟩
  have := h3 m hm
  obtain ⟨hl, e⟩ := List.getElem?_eq_some_iff.1 hx
  rw [← e]
  simpa using this
theorem findIdx_none {p : Int → Bool} {l : List Int} (h : l.findIdx? p = none) : ∀ x ∈ l, p x = false := by
  simpa [List.findIdx?_eq_none_iff] using h
theorem RInv.start : RInv [] ([], []) := ⟨rfl, Nat.le_refl _, fun _ _ => rfl, fun _ => Nat.le_refl _, .inl rfl, fun n t => by simp⟩
theorem RInv.step {pre : List Wd} {b : List Int × List Int} (h : RInv pre b) {w : Wd} (hw : w.1 < w.2.1) (hup : ∀ x ∈ pre, x.1 ≤ w.1) : RInv (pre ++ [w]) (rostStep w b) := by
  have hb0 := h.busy w.1 hup
  -- who is on when this one begins
  have hon : pre.countP (s150 w.1) = pre.countP (fun x => decide (w.1 < x.2.1)) := countP_eq_of pre fun x hx => by
    have := hup x hx
    simp [s150, this]
  have honw : (pre ++ [w]).countP (s150 w.1) = b.1.countP (fun f => decide (w.1 < f)) + 1 := by
    rw [List.countP_append, hon, hb0]
    simp [s150, hw]
  -- of those that are on at a moment when this one is on
  have hmost : ∀ t, w.1 ≤ t → t < w.2.1 → pre.countP (s150 t) ≤ b.1.countP (fun f => decide (w.1 < f)) := fun t h1 h2 => by
    rw [← hb0]
    exact countP_le_mono pre fun x hx hp => by
      simp only [s150, Bool.and_eq_true, decide_eq_true_eq] at hp ⊢
      omega
  have hlenle : b.1.countP (fun f => decide (w.1 < f)) ≤ b.1.length := List.countP_le_length
  unfold rostStep
  cases hf : b.1.findIdx? (fun f => decide (f ≤ w.1)) with
  | some k =>
    obtain ⟨⟨x, hx, hp⟩, hfirst⟩ := findIdx_some hf
    simp only [decide_eq_true_eq] at hp
    have hk : k < b.1.length := (List.getElem?_eq_some_iff.1 hx).1
    -- somebody is free: fewer are busy than there are
    have hless : b.1.countP (fun f => decide (w.1 < f)) < b.1.length := by
      rcases Nat.lt_or_ge (b.1.countP (fun f => decide (w.1 < f))) b.1.length with h1 | h1
      · exact h1
      · have h2 : b.1.countP (fun f => decide (w.1 < f)) = b.1.length := Nat.le_antisymm hlenle h1
        have := List.countP_eq_length.1 h2 x (List.mem_of_getElem? hx)
        simp only [decide_eq_true_eq] at this
        omega
    refine ⟨by simp [h.len], by simp; have := h.few; omega, fun t ht => ?_, fun t => ?_, ?_, fun n t => ?_⟩
    · have ht1 : ∀ y ∈ pre, y.1 ≤ t := fun y hy => ht y (by simp [hy])
      have ht2 : w.1 ≤ t := ht w (by simp)
      simp only
      rw [List.countP_append, h.busy t ht1, countP_set _ _ _ _ hx (by simp; omega)]
      simp [List.countP_cons]
    · simp only [List.countP_append, List.length_set]
      by_cases hs : s150 t w = true
      · have hs' := hs
        simp only [s150, Bool.and_eq_true, decide_eq_true_eq] at hs'
        have := hmost t hs'.1 hs'.2
        simp [List.countP_cons, hs]; omega
      · simp only [List.countP_cons, List.countP_nil, hs]
        have := h.most t
        simpa using this
    · right
      rcases h.full with h0 | ⟨y, hy, h1⟩
      · rw [h0] at hk; simp at hk
      · refine ⟨y, by simp [hy], ?_⟩
        simp only [List.length_set, List.countP_append]; omega
    · simp only
      rw [List.zip_append (by rw [h.len]), List.any_append, Bool.or_eq_true, h.whose n t]
      simp only [List.zip_cons_cons, List.zip_nil_right, List.any_cons, List.any_nil, Bool.or_false, Bool.and_eq_true, beq_iff_eq, decide_eq_true_eq]
      rw [List.getElem?_set]
      constructor
      · rintro (⟨f, h1, h2⟩ | ⟨h1, h2⟩)
        · by_cases e : k = n
          · subst e
            rw [hx] at h1
            cases h1
            exact ⟨w.2.1, by rw [if_pos rfl, if_pos hk], by omega⟩
          · exact ⟨f, by rw [if_neg e]; exact h1, h2⟩
        · have e : k = n := by omega
          subst e
          exact ⟨w.2.1, by rw [if_pos rfl, if_pos hk], h2⟩
      · rintro ⟨f, h1, h2⟩
        by_cases e : k = n
        · subst e
          rw [if_pos rfl, if_pos hk] at h1
          cases h1
          exact .inr ⟨rfl, h2⟩
        · rw [if_neg e] at h1
          exact .inl ⟨f, h1, h2⟩
  | none =>
    have hall := findIdx_none hf
    have hfull : b.1.countP (fun f => decide (w.1 < f)) = b.1.length := List.countP_eq_length.2 fun f hm => by
      have := hall f hm
      simp only [decide_eq_false_iff_not] at this
      simp only [decide_eq_true_eq]; omega
    refine ⟨by simp [h.len], by simp; exact h.few, fun t ht => ?_, fun t => ?_, ?_, fun n t => ?_⟩
    · have ht1 : ∀ y ∈ pre, y.1 ≤ t := fun y hy => ht y (by simp [hy])
      simp only
      rw [List.countP_append, h.busy t ht1, List.countP_append]
      simp [List.countP_cons]
    · simp only [List.countP_append, List.length_append, List.length_singleton]
      have := h.most t
      have h2 : List.countP (s150 t) [w] ≤ 1 := by simpa using List.countP_le_length (p := s150 t) (l := [w])
      omega
    · right
      refine ⟨w, by simp, ?_⟩
      rw [honw, hfull]
      simp
    · simp only
      rw [List.zip_append (by rw [h.len]), List.any_append, Bool.or_eq_true, h.whose n t]
      simp only [List.zip_cons_cons, List.zip_nil_right, List.any_cons, List.any_nil, Bool.or_false, Bool.and_eq_true, beq_iff_eq, decide_eq_true_eq]
      rw [List.getElem?_append]
      constructor
      · rintro (⟨f, h1, h2⟩ | ⟨h1, h2⟩)
        · exact ⟨f, by rw [if_pos (List.getElem?_eq_some_iff.1 h1).1]; exact h1, h2⟩
        · have e : b.1.length = n := by omega
          subst e
          exact ⟨w.2.1, by simp, h2⟩
      · rintro ⟨f, h1, h2⟩
        split at h1
        · exact .inl ⟨f, h1, h2⟩
        · rename_i hn
          have e : n = b.1.length := by
            have := (List.getElem?_eq_some_iff.1 h1).1
            simp at this; omega
          subst e
          simp at h1
          subst h1
          exact .inr ⟨rfl, h2⟩
theorem rost_snoc (pre : List Wd) (w : Wd) : rost (pre ++ [w]) = rostStep w (rost pre) := by
  unfold rost; rw [List.foldl_append]; rfl
theorem rost_inv {l : List Wd} (h : Shifts l) : ∀ j, j ≤ l.length → RInv (l.take j) (rost (l.take j))
  | 0, _ => RInv.start
  | j + 1, hj => by
    have ih := rost_inv h j (by omega)
    have e : l.take (j + 1) = l.take j ++ [l[j]] := by rw [List.take_append_getElem (by omega)]
    rw [e, rost_snoc]
    refine ih.step (h.ok _ (List.getElem_mem _)).2.1 (fun x hx => ?_)
    obtain ⟨i, hi, e2⟩ := List.mem_iff_getElem.1 hx
    rw [List.length_take] at hi
    rw [List.getElem_take] at e2
    rw [← e2]
    exact List.pairwise_iff_getElem.1 h.up i j (by omega) (by omega) (by omega)
theorem rost_all {l : List Wd} (h : Shifts l) : RInv l (rost l) := by
  have := rost_inv h l.length (Nat.le_refl _)
  rwa [List.take_length] at this
/-- THE DRIVERS ARE AS MANY AS ARE ON AT ONCE. -/
theorem dOf_rost {l : List Wd} (h : Shifts l) : dOf l = ((rost l).1.length : Int) := by
  have hi := rost_all h
  have hle : ∀ (q : List Wd) (m : Int), m ≤ ((rost l).1.length : Int) → q.foldl (fun m w => if s149 l w.1 > m then s149 l w.1 else m) m ≤ ((rost l).1.length : Int) ∧ m ≤ q.foldl (fun m w => if s149 l w.1 > m then s149 l w.1 else m) m ∧ ∀ w ∈ q, s149 l w.1 ≤ q.foldl (fun m w => if s149 l w.1 > m then s149 l w.1 else m) m := by
    intro q
    induction q with
    | nil => intro m hm; exact ⟨hm, Int.le_refl _, fun w hw => by cases hw⟩
    | cons x q ih =>
      intro m hm
      simp only [List.foldl_cons]
      have hx : s149 l x.1 ≤ ((rost l).1.length : Int) := by
        unfold s149
        exact Int.ofNat_le.2 (hi.most x.1)
      have hm' : (if s149 l x.1 > m then s149 l x.1 else m) ≤ ((rost l).1.length : Int) := by split <;> assumption
      obtain ⟨h1, h2, h3⟩ := ih _ hm'
      refine ⟨h1, ?_, fun w hw => ?_⟩
      · refine Int.le_trans ?_ h2
        split <;> omega
      · rcases List.mem_cons.1 hw with rfl | hw
        · refine Int.le_trans ?_ h2
          split <;> omega
        · exact h3 w hw
  obtain ⟨h1, h2, h3⟩ := hle l 0 (by omega)
  unfold dOf
  apply Int.le_antisymm h1
  rcases hi.full with h0 | ⟨w, hw, h4⟩
  · rw [h0]; exact h2
  · have := h3 w hw
    unfold s149 at this ⊢
    omega
end Go.Vm
