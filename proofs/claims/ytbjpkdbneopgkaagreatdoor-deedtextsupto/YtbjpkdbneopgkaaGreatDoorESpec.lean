/- DeedTexts: the law. Own work. -/
import Derived.Test.YtbjpkdbneopgkaaGreatDoorESpecN
set_option maxRecDepth 100000
set_option linter.unusedVariables false
set_option linter.unusedSimpArgs false
namespace Go.Vm
open Go.RowKit Go.Vm.Num
open Classical in
noncomputable def s21 (a b : List Dd) : Bool := decide (a = b)
theorem h21 (a b : List Dd) (hw : WFs A21 (a, b, ())) : ∃ k, f21 k a b = some (s21 a b, ()) := by
  simp only [WFs, WF] at hw
  have hl : a.length ≤ 9223372036854775807 := hw.1.1
  clear hw
  refine ⟨a.length + 1, ?_⟩
  unfold f21 s21
  by_cases hlen : a.length = b.length
  · have e : ((a.length : Int) != (b.length : Int)) = false := by simp [hlen]
    simp only [e, cond_false]
    have hzl : (List.zip a b).length = a.length := by rw [List.length_zip]; omega
    rw [iter_find (s0 := (((0 : Int), ()), ())) (List.zip a b) (fun i => (((i : Int), ()), ())) (fun q => !ddEq q.1 q.2) (fun i => .inl (false, ())) (.inr ((), ())) ?a1 ?a2 ?a3 ?a4]
    case a1 => rfl
    case a2 => omega
    case a3 =>
      intro j q hq
      obtain ⟨x, y⟩ := q
      obtain ⟨hx, hy⟩ := List.getElem?_zip_eq_some.1 hq
      simp only [lt_at hx, inR_at hx, inR_at hy, rd_at hx, rd_at hy, wrap_succ hx hl, cond_true, dd_chain]
      cases ddEq x y <;> rfl
    case a4 => rw [hzl]; simp
    have := zip_none (ne := fun x y : Dd => !ddEq x y) (fun x y => by rw [Bool.not_eq_false', ddEq_iff]) hlen
    cases hf : (List.zip a b).findIdx? (fun q => !ddEq q.1 q.2) with
    | none => simp [this.1 hf]
    | some i =>
      have : ¬ a = b := fun e => by rw [this.2 e] at hf; cases hf
      simp [this]
  · have e : ((a.length : Int) != (b.length : Int)) = true := by simp; omega
    have : ¬ a = b := fun e => hlen (by rw [e])
    simp [e, this]
theorem s21_self (l : List Dd) : s21 l l = true := by unfold s21; simp
def s4 (l : List Dd) (t : ByteArray) : Option (Bool × Unit) := if l.length ≤ 4294967296 then some (true, ()) else none
theorem h4 (l : List Dd) (t : ByteArray) (y : Bool × Unit) (hw : WFs A4 (l, t, ())) (h : s4 l t = some y) : ∃ k, f4 s8 s15 s16 s17 s18 s19 s20 s21 s22 k l t = some y := by
  unfold s4 at h
  split at h
  rotate_left
  · cases h
  rename_i hn
  cases h
  refine ⟨0, ?_⟩
  unfold f4
  have e18 : s18 l = some (l, ()) := by unfold s18; rw [if_pos hn]
  have e1 : (bif (s15 l) == (0 : Int) then Option.bind (s16 l) fun v1 => some (.inr ((v1.1, ()), ())) else some (.inr (((ByteArray.mk #[]), ()), ())) : Option ((Bool × Unit) ⊕ ((ByteArray × Unit) × Unit))) = some (.inr ((bif dFaults l != 0 then (ByteArray.mk #[]) else dLines l, ()), ())) := by
    unfold s15
    by_cases hF : dFaults l = 0
    · have e16 : s16 l = some (dLines l, ()) := by unfold s16; exact if_pos (deeds_OK hF)
      rw [e16, hF]
      rfl
    · rw [show (dFaults l == 0) = false from by simpa using hF, show (dFaults l != 0) = true from by simpa using hF]
      rfl
  rw [e1]
  simp only [Option.bind_some, e18, s17, s19, s20, s15, beq_self_eq_true, cond_true, sEq_iff.2 rfl, s21_self, s22_true]
end Go.Vm
