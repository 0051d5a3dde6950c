/- OffersCount: offers found, deals, costs. Own work. -/
import Derived.Test.YtbjpkdbneopgkaaPSpecA
import Derived.Test.YtbjpkdbneopgkaaVmK
import Derived.Test.YtbjpkdbneopgkaaWSearch
set_option maxRecDepth 100000
set_option linter.unusedVariables false
set_option linter.unusedSimpArgs false
namespace Go.Vm
open Go.RowKit
abbrev Dl : Type := ByteArray × ByteArray × Unit
/-! ### right offers rise -/
theorem rise : ∀ (l : List Ofr) (p : Option Ofr), chkP oBad (fun o x => decide (oCmp x o ≤ 0)) p l = 0 → (∀ q, p = some q → ∀ x ∈ l, oCmp q x < 0) ∧ l.Pairwise (fun a b => oCmp a b < 0)
  | [], p, _ => ⟨fun q _ x hx => (by cases hx), List.Pairwise.nil⟩
  | x :: l, p, h => by
    simp only [chkP] at h
    cases hb : oBad x != 0
    rotate_left
    · rw [hb, cond_true] at h
      rw [h] at hb; cases hb
    rw [hb, cond_false] at h
    cases ho : ordP (fun o x => decide (oCmp x o ≤ 0)) p x
    rotate_left
    · rw [ho, cond_true] at h; cases h
    rw [ho, cond_false] at h
    obtain ⟨h1, h2⟩ := rise l (some x) h
    have hx := h1 x rfl
    refine ⟨fun q hq y hy => ?_, List.pairwise_cons.2 ⟨hx, h2⟩⟩
    subst hq
    simp only [ordP, decide_eq_false_iff_not] at ho
    have hqx : oCmp q x < 0 := (oCmp_ok.anti q x trivial trivial).2 (by omega)
    rcases List.mem_cons.1 hy with rfl | hy
    · exact hqx
    · exact oCmp_ok.lt_le trivial trivial trivial hqx (by have := hx y hy; omega)
theorem ofrs_rise {l : List Ofr} (h : ofrsFault l = 0) : l.Pairwise (fun a b => oCmp a b < 0) := by
  unfold ofrsFault at h
  split at h
  · cases h
  · exact (rise l none h).2
theorem ofrs_len {l : List Ofr} (h : ofrsFault l = 0) : l.length ≤ 2000 := by
  unfold ofrsFault at h
  split at h
  · cases h
  · omega
/-! ### where the offer of a deal is -/
def isOf (d : Dl) (o : Ofr) : Bool := sEq o.1 d.1 && sEq o.2.1 d.2.1
def ixI : Option Nat → Int
  | some i => i
  | none => -1
def offAt (l : List Ofr) (d : Dl) : Option Nat := l.findIdx? (isOf d)
def s43 (l : List Ofr) (d : Dl) : Int := ixI (offAt l d)
theorem h43 (l : List Ofr) (d : Dl) (hw : WFs A43 (l, d, ())) : ∃ k, f43 k l d = some (s43 l d, ()) := by
  simp only [WFs, WF] at hw
  have hl : l.length ≤ 9223372036854775807 := hw.1.1
  clear hw
  refine ⟨l.length + 1, ?_⟩
  unfold f43 s43 offAt
  rw [iter_find (s0 := (((0 : Int), ()), (d, ()))) l (fun i => (((i : Int), ()), (d, ()))) (isOf d) (fun i => .inl ((i : Int), ())) (.inr ((), (d, ()))) rfl (by omega) ?a3 ?a4]
  case a3 =>
    intro j x hx
    simp only [lt_at hx, inR_at hx, rd_at hx, wrap_succ hx hl, cond_true, isOf]
    cases sEq x.1 d.1 <;> cases sEq x.2.1 d.2.1 <;> rfl
  case a4 => simp
  cases l.findIdx? (isOf d) <;> rfl
/-! ### .. found by halves -/
theorem wrap_uu (n : Int) : IntKind.u64.wrap n = n % 18446744073709551616 := by
  unfold IntKind.wrap
  simp only [IntKind.signed, IntKind.bits, Bool.false_and]
  rfl
theorem mid_eq {i j : Nat} (h : i + j ≤ 10000) : IntKind.i64.wrap (Int.fdiv (IntKind.u64.wrap (IntKind.i64.wrap ((i : Int) + (j : Int)))) (2 : Int)) = (((i + j) / 2 : Nat) : Int) := by
  rw [wrap_ok (n := (i : Int) + (j : Int)) (by omega) (by omega), wrap_uu, Int.emod_eq_of_lt (by omega) (by omega), Int.fdiv_eq_ediv_of_nonneg _ (by omega), wrap_ok (by omega) (by omega)]
  omega
def asOfr (d : Dl) : Ofr := (d.1, d.2.1, (0 : Int), ())
theorem isOf_iff (d : Dl) (o : Ofr) : isOf d o = true ↔ oCmp o (asOfr d) = 0 := by
  unfold isOf oCmp lexC asOfr
  simp only [Bool.and_eq_true, sEq_iff]
  constructor
  · rintro ⟨h1, h2⟩
    rw [if_pos (cmpS_zero.2 h1)]
    exact cmpS_zero.2 h2
  · intro h
    split at h
    · rename_i h1
      exact ⟨cmpS_zero.1 h1, cmpS_zero.1 h⟩
    · rename_i h1
      exact absurd h h1
theorem off_search {l : List Ofr} (up : l.Pairwise (fun a b => oCmp a b < 0)) (d : Dl) {r : Nat} (h1 : ∀ p x, p < r → l[p]? = some x → oCmp x (asOfr d) < 0) (h2 : ∀ p x, r ≤ p → l[p]? = some x → ¬ oCmp x (asOfr d) < 0) :
    offAt l d = match l[r]? with | none => none | some x => bif oCmp x (asOfr d) == 0 then some r else none := by
  have hno : ∀ p x, p < r → l[p]? = some x → isOf d x = false := fun p x hp hx => by
    rw [← Bool.not_eq_true, isOf_iff]
    have := h1 p x hp hx
    omega
  unfold offAt
  cases hr : l[r]? with
  | none =>
    rw [List.findIdx?_eq_none_iff]
    intro x hx
    obtain ⟨p, hp⟩ := List.getElem?_of_mem hx
    have := (List.getElem?_eq_some_iff.1 hp).1
    have := List.getElem?_eq_none_iff.1 hr
    exact hno p x (by omega) hp
  | some x =>
    obtain ⟨hlt, hxe⟩ := List.getElem?_eq_some_iff.1 hr
    cases he : oCmp x (asOfr d) == 0
    · simp only [he, cond_false]
      rw [List.findIdx?_eq_none_iff]
      intro y hy
      obtain ⟨p, hp⟩ := List.getElem?_of_mem hy
      obtain ⟨hlp, hpe⟩ := List.getElem?_eq_some_iff.1 hp
      rcases Nat.lt_trichotomy p r with h | h | h
      · exact hno p y h hp
      · subst h
        rw [hr] at hp
        cases hp
        rw [← Bool.not_eq_true, isOf_iff]
        simpa using he
      · rw [← Bool.not_eq_true, isOf_iff]
        intro h0
        have hxy := List.pairwise_iff_getElem.1 up r p hlt hlp h
        rw [hxe, hpe] at hxy
        have h3 := h2 r x (Nat.le_refl _) hr
        have : oCmp x (asOfr d) < 0 := oCmp_ok.lt_le trivial trivial trivial hxy (by omega)
        exact h3 this
    · simp only [he, cond_true]
      rw [List.findIdx?_eq_some_iff_getElem]
      refine ⟨hlt, ?_, fun j hj => ?_⟩
      · rw [hxe, isOf_iff]; simpa using he
      · rw [Bool.not_eq_true]
        exact hno j _ hj (List.getElem?_eq_getElem (by omega))
def s47 (l : List Ofr) (d : Dl) : Option (Int × Unit) := if ofrsFault l = 0 then some (s43 l d, ()) else none
theorem h47 (l : List Ofr) (d : Dl) (y : Int × Unit) (hw : WFs A47 (l, d, ())) (h : s47 l d = some y) : ∃ k, f47 s46 k l d = some y := by
  unfold s47 at h
  split at h
  rotate_left
  · cases h
  rename_i hF
  cases h
  clear hw
  have up := ofrs_rise hF
  have hlen := ofrs_len hF
  have hat : ∀ p, p < l.length → ∃ c, l[p]? = some c := fun p h => ⟨l[p], List.getElem?_eq_getElem h⟩
  refine ⟨l.length + 1, ?_⟩
  unfold f47
  generalize hR : iter (σ := HSt) (l.length + 1) _ _ = R
  obtain ⟨r, hr, h1, h2, hRr⟩ : ∃ r : Nat, r ≤ l.length ∧ (∀ p x, p < r → l[p]? = some x → oCmp x (asOfr d) < 0) ∧ (∀ p x, r ≤ p → l[p]? = some x → ¬ oCmp x (asOfr d) < 0) ∧ R = some (.inr (((r : Int), ()), ())) := by
    rw [← hR]
    obtain ⟨r, a1, a2, a3, a4⟩ := halves (τ := (Int × Unit) ⊕ (PT1 × Unit)) (f := fun y1 : HSt => bif (decide (y1.1.1 < y1.1.2.1)) then
            bif (inR (IntKind.i64.wrap (Int.fdiv (IntKind.u64.wrap (IntKind.i64.wrap (y1.1.1 + y1.1.2.1))) (2 : Int))) ((List.length l : Nat) : Int)) then
              bif (decide ((s46 (rd (α := PT3) zPT3 l (IntKind.i64.wrap (Int.fdiv (IntKind.u64.wrap (IntKind.i64.wrap (y1.1.1 + y1.1.2.1))) (2 : Int)))) (d.1, d.2.1, (0 : Int), ())) < (0 : Int))) then
                some (.inl (((IntKind.i64.wrap ((IntKind.i64.wrap (Int.fdiv (IntKind.u64.wrap (IntKind.i64.wrap (y1.1.1 + y1.1.2.1))) (2 : Int))) + (1 : Int))), y1.1.2.1, ()), ()))
              else
                some (.inl ((y1.1.1, (IntKind.i64.wrap (Int.fdiv (IntKind.u64.wrap (IntKind.i64.wrap (y1.1.1 + y1.1.2.1))) (2 : Int))), ()), ()))
            else
              none
          else
            some (.inr (.inr ((y1.1.1, ()), ())))) (fun p => match l[p]? with | none => false | some c => decide (oCmp c (asOfr d) < 0)) l.length
      (fun a b hab hb hlt => by
        obtain ⟨ca, ha⟩ := hat a (by omega)
        obtain ⟨cb, hcb⟩ := hat b hb
        simp only [hcb] at hlt
        simp only [ha]
        have hlt := of_decide_eq_true hlt
        by_cases e : a = b
        · subst e
          rw [ha] at hcb; cases hcb
          exact decide_eq_true hlt
        · have hpair := List.pairwise_iff_getElem.1 up a b (by omega) hb (by omega)
          have e1 := (List.getElem?_eq_some_iff.1 ha).2
          have e2 := (List.getElem?_eq_some_iff.1 hcb).2
          rw [e1, e2] at hpair
          exact decide_eq_true (oCmp_ok.lt_le trivial trivial trivial hpair (by omega)))
      (fun i j hij hj => by
        have c1 : decide ((i : Int) < (j : Int)) = true := decide_eq_true (by omega)
        simp only [c1, cond_true, mid_eq (i := i) (j := j) (by omega)]
        obtain ⟨c, hc⟩ := hat ((i + j) / 2) (by omega)
        have c2 : IntKind.i64.wrap ((((i + j) / 2 : Nat) : Int) + 1) = (((i + j) / 2 + 1 : Nat) : Int) := by rw [wrap_ok (by omega) (by omega)]; omega
        simp only [inR_at hc, rd_at hc, hc, cond_true, c2]
        have e : decide (s46 c (d.1, d.2.1, (0 : Int), ()) < 0) = decide (oCmp c (asOfr d) < 0) := rfl
        rw [e]
        cases decide (oCmp c (asOfr d) < 0) <;> rfl)
      (fun i hi => by
        have c1 : decide ((i : Int) < (i : Int)) = false := decide_eq_false (by omega)
        simp only [c1, cond_false])
    refine ⟨r, a1, fun p x hp hx => ?_, fun p x hp hx => ?_, a4 _ (by omega)⟩
    · have := a2 p hp
      simp only [hx] at this
      exact of_decide_eq_true this
    · have := a3 p hp (List.getElem?_eq_some_iff.1 hx).1
      simp only [hx] at this
      exact of_decide_eq_false this
  rw [hRr]
  simp only [Option.bind_some]
  unfold s43
  rw [off_search up d h1 h2]
  cases hc : l[r]? with
  | none =>
    have g1 : decide ((r : Int) < (l.length : Int)) = false := decide_eq_false (by have := List.getElem?_eq_none_iff.1 hc; omega)
    simp only [g1, cond_false, Option.bind_some]
    rfl
  | some x =>
    simp only [lt_at hc, inR_at hc, rd_at hc, cond_true, Option.bind_some]
    have e : (s46 x (d.1, d.2.1, (0 : Int), ()) == 0) = (oCmp x (asOfr d) == 0) := rfl
    rw [e]
    cases oCmp x (asOfr d) == 0 <;> rfl
end Go.Vm
