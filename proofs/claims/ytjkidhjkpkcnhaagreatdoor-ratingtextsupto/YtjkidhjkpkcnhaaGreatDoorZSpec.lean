/- RatingTexts: the law. Own work. -/
import Derived.Test.YtjkidhjkpkcnhaaGreatDoorZSpecF
set_option maxRecDepth 100000
set_option linter.unusedVariables false
set_option linter.unusedSimpArgs false
namespace Go.Vm
open Go.RowKit
theorem s59_self (l : List Rt) : s59 l l = true := by unfold s59; exact decide_eq_true rfl
def s6 (l : List Rt) (t : ByteArray) : Option (Bool × Unit) := if l.length ≤ 4294967296 then some (true, ()) else none
theorem h6 (l : List Rt) (t : ByteArray) (y : Bool × Unit) (hw : WFs A6 (l, t, ())) (h : s6 l t = some y) : ∃ k, f6 s48 s53 s54 s55 s56 s57 s58 s59 s60 k l t = some y := by
  unfold s6 at h
  split at h
  rotate_left
  · cases h
  rename_i hn
  cases h
  refine ⟨0, ?_⟩
  unfold f6
  have e56 : s56 l = some (l, ()) := by unfold s56; rw [if_pos hn]
  have e1 : (bif (s53 l) == (0 : Int) then Option.bind (s54 l) fun v1 => some (.inr ((v1.1, ()), ())) else some (.inr (((ByteArray.mk #[]), ()), ())) : Option ((Bool × Unit) ⊕ ((ByteArray × Unit) × Unit))) = some (.inr ((bif rFaults l != 0 then (ByteArray.mk #[]) else linesOf l, ()), ())) := by
    unfold s53
    by_cases hF : rFaults l = 0
    · have e54 : s54 l = some (linesOf l, ()) := by unfold s54; exact if_pos (rts_OK hF)
      rw [e54, hF]
      rfl
    · rw [show (rFaults l == 0) = false from by simpa using hF, show (rFaults l != 0) = true from by simpa using hF]
      rfl
  rw [e1]
  simp only [Option.bind_some, e56, s55, s57, s58, s53, beq_self_eq_true, cond_true, sEq_iff.2 rfl, s59_self, s36_true]
end Go.Vm
