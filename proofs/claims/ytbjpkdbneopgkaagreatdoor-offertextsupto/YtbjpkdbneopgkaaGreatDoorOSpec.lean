/- OfferTexts: the law. Own work. -/
import Derived.Test.YtbjpkdbneopgkaaGreatDoorOSpecA
import Derived.Test.YtbjpkdbneopgkaaGreatDoorOGate
set_option maxRecDepth 100000
set_option linter.unusedVariables false
set_option linter.unusedSimpArgs false
namespace Go.Vm
open Go.RowKit Go.Vm.Num
def ofrEq (a b : Ofr) : Bool := keq OY0 a b
theorem ofrEq_iff (a b : Ofr) : ofrEq a b = true ↔ a = b := keq_iff (K := OY0) rfl a b
open Classical in
noncomputable def s29 (a b : List Ofr) : Bool := decide (a = b)
theorem ofr_chain (a b : Ofr) : ((sEq a.1 b.1) && ((sEq a.2.1 b.2.1) && ((a.2.2.1 == b.2.2.1) && true))) = ofrEq a b := rfl
theorem h29 (a b : List Ofr) (hw : WFs A29 (a, b, ())) : ∃ k, f29 k a b = some (s29 a b, ()) := by
  simp only [WFs, WF] at hw
  have hl : a.length ≤ 9223372036854775807 := hw.1.1
  clear hw
  refine ⟨a.length + 1, ?_⟩
  unfold f29 s29
  by_cases hlen : a.length = b.length
  · have e : ((a.length : Int) != (b.length : Int)) = false := by simp [hlen]
    simp only [e, cond_false]
    have hzl : (List.zip a b).length = a.length := by rw [List.length_zip]; omega
    rw [iter_find (s0 := (((0 : Int), ()), ())) (List.zip a b) (fun i => (((i : Int), ()), ())) (fun q => !ofrEq q.1 q.2) (fun i => .inl (false, ())) (.inr ((), ())) ?a1 ?a2 ?a3 ?a4]
    case a1 => rfl
    case a2 => omega
    case a3 =>
      intro j q hq
      obtain ⟨x, y⟩ := q
      obtain ⟨hx, hy⟩ := List.getElem?_zip_eq_some.1 hq
      simp only [lt_at hx, inR_at hx, inR_at hy, rd_at hx, rd_at hy, wrap_succ hx hl, cond_true, ofr_chain]
      cases ofrEq x y <;> rfl
    case a4 => rw [hzl]; simp
    have := zip_none (ne := fun x y : Ofr => !ofrEq x y) (fun x y => by rw [Bool.not_eq_false', ofrEq_iff]) hlen
    cases hf : (List.zip a b).findIdx? (fun q => !ofrEq q.1 q.2) with
    | none => simp [this.1 hf]
    | some i =>
      have : ¬ a = b := fun e => by rw [this.2 e] at hf; cases hf
      simp [this]
  · have e : ((a.length : Int) != (b.length : Int)) = true := by simp; omega
    have : ¬ a = b := fun e => hlen (by rw [e])
    simp [e, this]
theorem s29_self (l : List Ofr) : s29 l l = true := by unfold s29; simp
def s5 (l : List Ofr) (t : ByteArray) : Option (Bool × Unit) := if l.length ≤ 4294967296 then some (true, ()) else none
theorem h5 (l : List Ofr) (t : ByteArray) (y : Bool × Unit) (hw : WFs A5 (l, t, ())) (h : s5 l t = some y) : ∃ k, f5 s8 s23 s24 s25 s26 s27 s28 s29 s30 k l t = some y := by
  unfold s5 at h
  split at h
  rotate_left
  · cases h
  rename_i hn
  cases h
  refine ⟨0, ?_⟩
  unfold f5
  have e26 : s26 l = some (l, ()) := by unfold s26; rw [if_pos hn]
  have e1 : (bif (s23 l) == (0 : Int) then Option.bind (s24 l) fun v1 => some (.inr ((v1.1, ()), ())) else some (.inr (((ByteArray.mk #[]), ()), ())) : Option ((Bool × Unit) ⊕ ((ByteArray × Unit) × Unit))) = some (.inr ((bif ofrsFault l != 0 then (ByteArray.mk #[]) else oLines l, ()), ())) := by
    unfold s23
    by_cases hF : ofrsFault l = 0
    · have e24 : s24 l = some (oLines l, ()) := by unfold s24; exact if_pos (ofrs_OK hF)
      rw [e24, hF]
      rfl
    · rw [show (ofrsFault l == 0) = false from by simpa using hF, show (ofrsFault l != 0) = true from by simpa using hF]
      rfl
  rw [e1]
  simp only [Option.bind_some, e26, s25, s27, s28, s23, beq_self_eq_true, cond_true, sEq_iff.2 rfl, s29_self, s30]
end Go.Vm
