/- RunTexts: the law. Own work. -/
import Derived.Test.YtjkidhjkpkcnhaaGreatDoorXSpecF
set_option maxRecDepth 100000
set_option linter.unusedVariables false
set_option linter.unusedSimpArgs false
namespace Go.Vm
open Go.RowKit
open Classical in
noncomputable def s5 (l : List Run) (t : ByteArray) : Option (Bool × Unit) := if l.length ≤ 4294967296 then some (true, ()) else none
theorem h5 (l : List Run) (t : ByteArray) (y : Bool × Unit) (hw : WFs A5 (l, t, ())) (h : s5 l t = some y) : ∃ k, f5 s28 s34 s46 s47 s48 s49 s50 s51 s52 k l t = some y := by
  unfold s5 at h
  split at h
  rotate_left
  · cases h
  rename_i hn
  cases h
  refine ⟨0, ?_⟩
  unfold f5
  have e28 : s28 l = some (l, ()) := by unfold s28; rw [if_pos hn]
  have e1 : (bif (s34 l) == (0 : Int) then Option.bind (s47 l) fun v1 => some (.inr ((v1.1, ()), ())) else some (.inr (((ByteArray.mk #[]), ()), ())) : Option ((Bool × Unit) ⊕ ((ByteArray × Unit) × Unit))) = some (.inr ((bif runsFault l != 0 then (ByteArray.mk #[]) else linesOf l, ()), ())) := by
    unfold s34
    by_cases hF : runsFault l = 0
    · have e47 : s47 l = some (linesOf l, ()) := by unfold s47; exact if_pos (show allOK l from runs_OK hF)
      rw [e47, hF]
      rfl
    · rw [show (runsFault l == 0) = false from by simpa using hF, show (runsFault l != 0) = true from by simpa using hF]
      rfl
  rw [e1]
  simp only [Option.bind_some, e28, s49, s50, s51, s34, beq_self_eq_true, cond_true, sEq_iff.2 rfl, s52_self, s24_true]
end Go.Vm
