/- BonusesPaid: what is wrong with what was done. Own work. -/
import Derived.Test.YtfiembgemhonlaaDoorUSpecB
set_option linter.unusedVariables false
set_option linter.unusedSimpArgs false
namespace Go.Vm
open Go.RowKit Go.Vm.Gain
def dnFault (d : Dn) : Int := bif !key (nWho d) then 5 else bif !key (nRide d) then 5 else bif !s37 (nAt d) then 1 else 0
def dnFaults (l : List Dn) : Int := if l.length > 3000 then 2 else chkP dnFault (fun o x => decide (dnCmp x o ≤ 0)) none l
def s15 := dnFaults
def s10 := dnFaults
theorem h15 (l : List Dn) (hw : WFs A15 (l, ())) : ∃ k, f15 s29 s36 s37 s38 s39 k l = some (s15 l, ()) := by
  simp only [WFs, WF] at hw
  have hl : l.length ≤ 9223372036854775807 := hw.1.1
  clear hw
  refine ⟨l.length + 1, ?_⟩
  unfold f15 s15 dnFaults
  rw [show (3000 : Int) = ((3000 : Nat) : Int) from rfl, len_gt]
  by_cases hn : l.length > 3000
  · simp [hn]
  · simp only [hn, decide_false, cond_false, if_false]
    rw [iter_chkP (xs := l) dnFault (fun o x => decide (dnCmp x o ≤ 0)) ?a1 ?a2]
    case a2 => simp
    case a1 =>
      intro j x p hx hp
      simp only [lt_at hx, inR_at hx, rd_at hx, wrap_succ hx hl, cond_true, chkPB, ordP, dnFault, show s36 = key from rfl]
      cases key x.1
      · rfl
      cases key x.2.1
      · rfl
      cases s37 x.2.2.1
      · rfl
      simp only [Bool.not_true, cond_false, bne_self_eq_false]
      rcases hp with ⟨rfl, rfl⟩ | ⟨o, hj, ho, rfl⟩
      · rfl
      · have e0 : decide (((j : Nat) : Int) > 0) = true := by simp; omega
        have e1 : s38 [s29 x o, s39 x.2.2.1 o.2.2.1] = dnCmp x o := by
          show nz _ = _
          rw [nzp]
          rfl
        simp only [e0, prev_ix hl hj ho, inR_at ho, rd_at ho, cond_true, e1]
        cases decide (dnCmp x o ≤ 0) <;> rfl
    exact faults_out [] _ _ rfl
theorem two_cmp (a b : Dn) : s33 [a.1, a.2.1] [b.1, b.2.1] = drCmp a b := by
  unfold s33 drCmp lexC
  simp only [cmpL]
  by_cases h : cmpS (nRide a) (nRide b) = 0
  · rw [if_pos h]
    split
    · exact h.symm
    · rfl
  · rw [if_neg h]
theorem dn_order (o x : Dn) : (decide (drCmp o x > 0) || ((drCmp o x == 0) && decide (nAt x ≤ nAt o))) = decide (dnCmp x o ≤ 0) := by
  have hz := drCmp_ok.zero (a := o) (b := x) trivial trivial
  have ha := drCmp_ok.anti x o trivial trivial
  unfold dnCmp lexC
  by_cases h : drCmp x o = 0
  · have h0 := hz.2 h
    rw [if_pos h, h0]
    show _ = decide (cmpI (nAt x) (nAt o) ≤ 0)
    unfold cmpI
    by_cases h1 : nAt x < nAt o
    · rw [if_pos h1]; simp; omega
    · rw [if_neg h1]
      by_cases h2 : nAt x > nAt o
      · rw [if_pos h2]; simp; omega
      · rw [if_neg h2]; simp; omega
  · have h0 : drCmp o x ≠ 0 := fun e => h (hz.1 e)
    rw [if_neg h, show (drCmp o x == 0) = false from by simpa using h0, Bool.false_and, Bool.or_false]
    congr 1
    apply propext
    omega
theorem h10 (l : List Dn) (hw : WFs A10 (l, ())) : ∃ k, f10 s12 s32 s33 k l = some (s10 l, ()) := by
  simp only [WFs, WF] at hw
  have hl : l.length ≤ 9223372036854775807 := hw.1.1
  clear hw
  refine ⟨l.length + 1, ?_⟩
  unfold f10 s10 dnFaults
  rw [show (3000 : Int) = ((3000 : Nat) : Int) from rfl, len_gt]
  by_cases hn : l.length > 3000
  · simp [hn]
  · simp only [hn, decide_false, cond_false, if_false]
    rw [iter_chkP (xs := l) dnFault (fun o x => decide (dnCmp x o ≤ 0)) ?a1 ?a2]
    case a2 => simp
    case a1 =>
      intro j x p hx hp
      simp only [lt_at hx, inR_at hx, rd_at hx, wrap_succ hx hl, cond_true, chkPB, ordP, dnFault, show s12 = key from rfl, show s32 = s37 from rfl]
      cases key x.1
      · rfl
      cases key x.2.1
      · rfl
      cases s37 x.2.2.1
      · rfl
      simp only [Bool.not_true, cond_false, bne_self_eq_false]
      rcases hp with ⟨rfl, rfl⟩ | ⟨o, hj, ho, rfl⟩
      · rfl
      · have e0 : (((j : Nat) : Int) == 0) = false := by simp; omega
        have e1 := dn_order o x
        simp only [e0, prev_ix hl hj ho, inR_at ho, rd_at ho, cond_true, cond_false, two_cmp]
        rw [← e1]
        cases decide (drCmp o x > 0)
        · cases drCmp o x == 0
          · rfl
          · simp only [cond_true, Bool.false_or, Bool.true_and]
            cases decide (nAt x ≤ nAt o) <;> rfl
        · rfl
    exact faults_out [] _ _ rfl
end Go.Vm
