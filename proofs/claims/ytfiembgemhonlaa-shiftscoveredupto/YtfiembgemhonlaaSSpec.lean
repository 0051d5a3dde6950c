/- ShiftsCovered: the law. Own work. -/
import Derived.Test.YtfiembgemhonlaaSSpecF
set_option linter.unusedVariables false
set_option linter.unusedSimpArgs false
namespace Go.Vm
open Go.RowKit Go.Vm.Gain
theorem s148_iff (a b : Wd) : s148 a b < 0 ↔ a.1 < b.1 ∨ (a.1 = b.1 ∧ a.2.1 < b.2.1) := by
  unfold s148
  simp only [nz, s128]
  by_cases h1 : a.1 < b.1
  · simp [h1]
  · by_cases h2 : a.1 > b.1
    · have : ¬ a.1 = b.1 := by omega
      simp [h1, h2, this]
    · have : a.1 = b.1 := by omega
      by_cases h3 : a.2.1 < b.2.1
      · simp [h1, h2, h3, this]
      · by_cases h4 : a.2.1 > b.2.1
        · simp [h1, h2, h3, h4, this]
        · simp [h1, h2, h3, h4, this]
def s50 (l : List Wd) : Int := shiftsFault l
theorem h50 (l : List Wd) (hw : WFs A50 (l, ())) : ∃ k, f50 k l = some (s50 l, ()) := by
  simp only [WFs, WF] at hw
  have hl : l.length ≤ 9223372036854775807 := hw.1.1
  refine ⟨l.length + 1, ?_⟩
  unfold f50 s50 shiftsFault
  rw [show (500 : Int) = ((500 : Nat) : Int) from rfl, len_gt]
  by_cases hn : l.length > 500
  · simp [hn]
  · simp only [hn, decide_false, cond_false, if_false]
    rw [iter_scanI (β := Option Wd) l (fun j _ => (((j : Int), ()), ())) (fun _ => shB) (fun _ => .inr ((), ())) (SJ l) none ?hb ?hs ?hk ?hJ ?h1 ?h2]
    · exact out1_bind _
    case hb => exact .inl ⟨rfl, rfl⟩
    case hs => rfl
    case hk => exact Nat.lt_succ_self _
    · intro j x b b' hx _ h
      exact SJ_next j x b b' hx h
    · intro j x b hx hJ
      simp only [lt_at hx, inR_at hx, rd_at hx, wrap_succ hx hl, cond_true]
      unfold shB shBad
      cases h1 : decide (x.1 < 0)
      · cases h2 : decide (x.1 ≥ x.2.1)
        · cases h3 : decide (x.2.1 > 345686400000)
          · simp only [cond_false, Bool.or_false]
            rcases hJ with ⟨rfl, rfl⟩ | ⟨o, hj, ho, rfl⟩
            · rfl
            · have e0 : decide (((j : Nat) : Int) > 0) = true := by simp; omega
              simp only [e0, prev_ix hl hj ho, inR_at ho, rd_at ho, cond_true]
              have hi := s148_iff x o
              by_cases q1 : x.1 < o.1
              · have : s148 x o < 0 := hi.2 (.inl q1)
                simp [q1, this]
              · by_cases q2 : x.1 = o.1
                · by_cases q3 : x.2.1 < o.2.1
                  · have : s148 x o < 0 := hi.2 (.inr ⟨q2, q3⟩)
                    simp [q2, q3, this]
                  · have : ¬ s148 x o < 0 := fun h => by rcases hi.1 h with h | h <;> omega
                    simp only [this, decide_false, cond_false, q1]
                    simp [q2, q3]
                · have : ¬ s148 x o < 0 := fun h => by rcases hi.1 h with h | h <;> omega
                  have q3 : @BEq.beq Int _ x.1 o.1 = false := beq_eq_false_iff_ne.2 q2
                  simp only [this, decide_false, cond_false, q1]
                  exact congrArg (fun b => cond b _ _) q3
          · rfl
        · rfl
      · rfl
    · intro b _
      simp
theorem zip_none {α : Type} {ne : α → α → Bool} (hne : ∀ a b, ne a b = false ↔ a = b) : ∀ {a b : List α}, a.length = b.length → ((List.zip a b).findIdx? (fun q => ne q.1 q.2) = none ↔ a = b)
  | [], [], _ => by simp
  | [], _ :: _, h => by simp at h
  | _ :: _, [], h => by simp at h
  | x :: a, y :: b, h => by
    have ih := zip_none hne (a := a) (b := b) (by simpa using h)
    simp only [List.zip_cons_cons, List.findIdx?_cons, List.cons.injEq]
    cases hq : ne x y
    · have := (hne x y).1 hq
      simp only [Bool.false_eq_true, if_false, Option.map_eq_none_iff, ih, this, true_and]
    · have : x ≠ y := fun e => by rw [(hne x y).2 e] at hq; cases hq
      simp [this]
def s58 (a b : List Int) : Bool := decide (a = b)
theorem h58 (a b : List Int) (hw : WFs A58 (a, b, ())) : ∃ k, f58 k a b = some (s58 a b, ()) := by
  simp only [WFs, WF] at hw
  have hl : a.length ≤ 9223372036854775807 := hw.1.1
  refine ⟨a.length + 1, ?_⟩
  unfold f58 s58
  by_cases hlen : a.length = b.length
  · have e : ((a.length : Int) != (b.length : Int)) = false := by simp [hlen]
    simp only [e, cond_false]
    have hzl : (List.zip a b).length = a.length := by rw [List.length_zip]; omega
    rw [iter_find (s0 := (((0 : Int), ()), ())) (List.zip a b) (fun i => (((i : Int), ()), ())) (fun q => q.1 != q.2) (fun i => .inl (false, ())) (.inr ((), ())) ?a1 ?a2 ?a3 ?a4]
    case a1 => rfl
    case a2 => omega
    case a3 =>
      intro j q hq
      obtain ⟨x, y⟩ := q
      obtain ⟨hx, hy⟩ := List.getElem?_zip_eq_some.1 hq
      simp only [lt_at hx, inR_at hx, inR_at hy, rd_at hx, rd_at hy, wrap_succ hx hl, cond_true]
      cases x != y <;> rfl
    case a4 => rw [hzl]; simp
    have := zip_none (ne := fun x y : Int => x != y) (fun a b => by simp) hlen
    cases hf : (List.zip a b).findIdx? (fun q => q.1 != q.2) with
    | none => simp [this.1 hf]
    | some i =>
      have : ¬ a = b := fun e => by rw [this.2 e] at hf; cases hf
      simp [this]
  · have e : ((a.length : Int) != (b.length : Int)) = true := by simp; omega
    have : ¬ a = b := fun e => hlen (by rw [e])
    simp [e, this]
def wne (x y : Wd) : Bool := !((x.1 == y.1) && ((x.2.1 == y.2.1) && true))
theorem wne_iff (x y : Wd) : wne x y = false ↔ x = y := by
  obtain ⟨a, b, ⟨⟩⟩ := x
  obtain ⟨c, d, ⟨⟩⟩ := y
  simp [wne]
def s59 (a b : List Wd) : Bool := decide (a = b)
theorem h59 (a b : List Wd) (hw : WFs A59 (a, b, ())) : ∃ k, f59 k a b = some (s59 a b, ()) := by
  simp only [WFs, WF] at hw
  have hl : a.length ≤ 9223372036854775807 := hw.1.1
  refine ⟨a.length + 1, ?_⟩
  unfold f59 s59
  by_cases hlen : a.length = b.length
  · have e : ((a.length : Int) != (b.length : Int)) = false := by simp [hlen]
    simp only [e, cond_false]
    have hzl : (List.zip a b).length = a.length := by rw [List.length_zip]; omega
    rw [iter_find (s0 := (((0 : Int), ()), ())) (List.zip a b) (fun i => (((i : Int), ()), ())) (fun q => wne q.1 q.2) (fun i => .inl (false, ())) (.inr ((), ())) ?a1 ?a2 ?a3 ?a4]
    case a1 => rfl
    case a2 => omega
    case a3 =>
      intro j q hq
      obtain ⟨x, y⟩ := q
      obtain ⟨hx, hy⟩ := List.getElem?_zip_eq_some.1 hq
      simp only [lt_at hx, inR_at hx, inR_at hy, rd_at hx, rd_at hy, wrap_succ hx hl, cond_true, wne]
      cases (!((x.1 == y.1) && ((x.2.1 == y.2.1) && true))) <;> rfl
    case a4 => rw [hzl]; simp
    have := zip_none wne_iff hlen
    cases hf : (List.zip a b).findIdx? (fun q => wne q.1 q.2) with
    | none => simp [this.1 hf]
    | some i =>
      have : ¬ a = b := fun e => by rw [this.2 e] at hf; cases hf
      simp [this]
  · have e : ((a.length : Int) != (b.length : Int)) = true := by simp; omega
    have : ¬ a = b := fun e => hlen (by rw [e])
    simp [e, this]
def s6 (x : List Wd) (w : Wd) (many : Int) (t : List Run) (r : Int × Int × Unit) (v : ByteArray) : Option (Bool × Unit) := if x.length ≤ 4294967296 ∧ t.length ≤ 4294967296 then some (true, ()) else none
theorem fault_S (a b m : Int) (n : Int) : (bif decide (m < 0) then (some (.inr ((nz [a, b, s21 true 1], ()), ())) : Option ((Bool × Unit) ⊕ ((Int × Unit) × Unit))) else some (.inr ((nz [a, b, s21 (decide (m > n)) 1], ()), ()))) = some (.inr ((nz [a, b, s21 (s114 m 0 n) 1], ()), ())) := by
  unfold s114
  cases decide (m < 0) <;> rfl
theorem h6 (x : List Wd) (w : Wd) (many : Int) (t : List Run) (r : Int × Int × Unit) (v : ByteArray) (y : Bool × Unit) (hw : WFs A6 (x, w, many, t, r, v, ())) (h : s6 x w many t r v = some y) :
    ∃ k, f6 s20 s21 s24 s31 s38 s41 s45 s46 s47 s48 s49 s50 s51 s52 s53 s54 s55 s56 s57 s58 s59 k x w many t r v = some y := by
  unfold s6 at h
  split at h
  · rename_i hl
    cases h
    refine ⟨0, ?_⟩
    unfold f6
    have e46 : s46 x = some (x, ()) := by unfold s46; rw [if_pos hl.1]
    have e38 : s38 t = some (t, ()) := by unfold s38; rw [if_pos hl.2]
    simp only [e46, e38, Option.bind_some, s20, fault_S, s53, s47, s45, s54, s55, s56, s57, s24_true, s50, show s41 t = runsFault t from rfl, nzp, s48, s49, s51, s52, s31, nz]
    by_cases he : shiftsFault x = 0
    · obtain ⟨hS, hx5⟩ := shifts_of he
      have hd := dOf_rost hS
      simp only [he, if_true, Option.bind_some, bne_self_eq_false, cond_false, beq_self_eq_true, cond_true, hd]
      unfold s114
      by_cases hb : runsFault t = 0
      · by_cases w1 : winBad w = true <;> by_cases r1 : restBad r = true <;> by_cases k1 : key v = true <;> by_cases m1 : many < 0 <;> by_cases m2 : many > 500 <;> simp [s21, s58, s59, hb, w1, r1, k1, m1, m2]
      · have hb2 : (runsFault t == 0) = false := beq_eq_false_iff_ne.2 hb
        by_cases w1 : winBad w = true <;> by_cases r1 : restBad r = true <;> by_cases k1 : key v = true <;> by_cases m1 : many < 0 <;> by_cases m2 : many > 500 <;> simp [s21, s58, s59, hb, hb2, w1, r1, k1, m1, m2]
    · have he2 : (shiftsFault x == 0) = false := beq_eq_false_iff_ne.2 he
      simp only [he, if_false, Option.bind_some, bne_self_eq_false, cond_false, he2]
      by_cases hb : runsFault t = 0
      · by_cases r1 : restBad r = true <;> by_cases k1 : key v = true <;> by_cases m1 : many < 0 <;> simp [s21, s58, s59, hb, he2, r1, k1, m1]
      · have hb2 : (runsFault t == 0) = false := beq_eq_false_iff_ne.2 hb
        by_cases r1 : restBad r = true <;> by_cases k1 : key v = true <;> by_cases m1 : many < 0 <;> simp [s21, s58, s59, hb, hb2, he2, r1, k1, m1]
  · cases h
end Go.Vm
