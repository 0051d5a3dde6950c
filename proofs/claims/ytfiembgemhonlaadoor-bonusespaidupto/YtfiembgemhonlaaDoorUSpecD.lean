/- BonusesPaid: what is wrong with the quests. Own work. -/
import Derived.Test.YtfiembgemhonlaaDoorUSpecC
set_option linter.unusedVariables false
set_option linter.unusedSimpArgs false
namespace Go.Vm
open Go.RowKit Go.Vm.Gain
abbrev qFrom (q : Qs) : Int := q.2.1.1
abbrev qTo (q : Qs) : Int := q.2.1.2.1
abbrev qRides (q : Qs) : Int := q.2.2.1
abbrev qCents (q : Qs) : Int := q.2.2.2.1
abbrev qTimes (q : Qs) : Int := q.2.2.2.2.1
def qBad (q : Qs) : Int := bif decide (qFrom q < 0) then 1 else bif decide (qFrom q ≥ qTo q) then 1 else bif decide (qTo q > 345686400000) then 1 else
  bif s40 (qRides q) 1 3000 then 1 else bif s40 (qCents q) 0 1000000000 then 1 else bif s40 (qTimes q) 1 1000 then 1 else 0
def qsFault (l : List Qs) : Int := if l.length > 50 then 2 else chk (·.1) qBad none l
def s16 := qsFault
def s9 := qsFault
theorem h16 (l : List Qs) (hw : WFs A16 (l, ())) : ∃ k, f16 s36 s40 k l = some (s16 l, ()) := by
  simp only [WFs, WF] at hw
  have hl := hw.1.1
  refine ⟨l.length + 1, ?_⟩
  unfold f16 s16 qsFault
  rw [show (50 : Int) = ((50 : Nat) : Int) from rfl, len_gt]
  by_cases hn : l.length > 50
  · simp [hn]
  · simp only [hn, decide_false, cond_false, if_false]
    rw [iter_scan0 (β := Unit) l (fun j _ => (((j : Int), ()), ())) (chkBody (·.1) qBad l) (fun _ => .inr ((), ())) () ?hs ?hk ?h1 ?h2]
    case hs => rfl
    case hk => exact Nat.lt_succ_self _
    · exact chk_scan (·.1) qBad l l 0 rfl
    · intro j x b hx
      simp only [lt_at hx, inR_at hx, rd_at hx, wrap_succ hx hl, cond_true, chkBody, show s36 = key from rfl]
      cases !key x.1
      · simp only [cond_false]
        by_cases hj : j = 0
        · subst hj
          have : decide (((0 : Nat) : Int) > 0) = false := by decide
          simp only [this, cond_false, Option.bind_some, prevK, if_true, qBad]
          cases decide (qFrom x < 0) <;> cases decide (qFrom x ≥ qTo x) <;> cases decide (qTo x > 345686400000) <;> cases s40 (qRides x) 1 3000 <;> cases s40 (qCents x) 0 1000000000 <;> cases s40 (qTimes x) 1 1000 <;> rfl
        · obtain ⟨y, hy, hwr⟩ := prev_at hx hl hj
          have : decide ((j : Int) > 0) = true := by simp; omega
          simp only [this, cond_true, hwr, inR_at hy, rd_at hy, Option.bind_some, prevK, hj, if_false, hy, Option.map_some, leS]
          cases (sLt x.1 y.1 || sEq x.1 y.1)
          · simp only [cond_false, qBad]
            cases decide (qFrom x < 0) <;> cases decide (qFrom x ≥ qTo x) <;> cases decide (qTo x > 345686400000) <;> cases s40 (qRides x) 1 3000 <;> cases s40 (qCents x) 0 1000000000 <;> cases s40 (qTimes x) 1 1000 <;> rfl
          · rfl
      · rfl
    · intro b
      simp
theorem h9 (l : List Qs) (hw : WFs A9 (l, ())) : ∃ k, f9 s12 s31 k l = some (s9 l, ()) := by
  simp only [WFs, WF] at hw
  have hl := hw.1.1
  refine ⟨l.length + 1, ?_⟩
  unfold f9 s9 qsFault
  rw [show (50 : Int) = ((50 : Nat) : Int) from rfl, len_gt]
  by_cases hn : l.length > 50
  · simp [hn]
  · simp only [hn, decide_false, cond_false, if_false]
    rw [iter_scan0 (β := ByteArray) l (fun j b => ((b, (j : Int), ()), ())) (lastBody (·.1) qBad) (fun _ => .inr ((), ())) (ByteArray.mk #[]) ?hs ?hk ?h1 ?h2]
    case hs => rfl
    case hk => exact Nat.lt_succ_self _
    · rw [← chkLast_first]
      exact last_scan (·.1) qBad l 0 _
    · intro j x b hx
      simp only [lt_at hx, inR_at hx, rd_at hx, wrap_succ hx hl, cond_true, lastBody, show s12 = key from rfl, in_out, leS, Bool.not_not]
      cases !key x.1
      · simp only [cond_false]
        cases (sLt x.1 b || sEq x.1 b)
        · simp only [cond_false, qBad]
          cases decide (qFrom x < 0) <;> cases decide (qFrom x ≥ qTo x) <;> cases decide (qTo x > 345686400000) <;> cases s40 (qRides x) 1 3000 <;> cases s40 (qCents x) 0 1000000000 <;> cases s40 (qTimes x) 1 1000 <;> rfl
        · rfl
      · rfl
    · intro b
      simp
end Go.Vm
