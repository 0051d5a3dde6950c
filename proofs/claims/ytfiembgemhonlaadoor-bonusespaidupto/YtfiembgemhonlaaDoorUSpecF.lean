/- BonusesPaid: the last of what was done, for each ride; what a quest pays. Own work. -/
import Derived.Test.YtfiembgemhonlaaDoorUSpecE
set_option linter.unusedVariables false
set_option linter.unusedSimpArgs false
namespace Go.Vm
open Go.RowKit Go.Vm.Gain
def sameD (a b : Dn) : Bool := drCmp a b == 0
def stepN (out : List Dn) (d : Dn) : List Dn :=
  match out.getLast? with
  | some o => bif sameD o d then out.dropLast ++ [d] else out ++ [d]
  | none => out ++ [d]
def isMine (w : ByteArray) (at_ : Int) (d : Dn) : Bool := sEq (nWho d) w && decide (nAt d ≤ at_)
def lasts (w : ByteArray) (at_ : Int) (l : List Dn) : List Dn := (l.filter (isMine w at_)).foldl stepN []
theorem stepN_len (out : List Dn) (r : Dn) : (stepN out r).length ≤ out.length + 1 := by
  unfold stepN
  cases h : out.getLast? with
  | none => simp
  | some o =>
    simp only
    cases sameD o r <;> simp <;> omega
theorem foldN_len : ∀ (l out : List Dn), (l.foldl stepN out).length ≤ out.length + l.length
  | [], out => by simp
  | r :: l, out => by
    have := foldN_len l (stepN out r)
    have := stepN_len out r
    simp only [List.foldl_cons, List.length_cons]
    omega
theorem lasts_len (w : ByteArray) (at_ : Int) (l : List Dn) : (lasts w at_ l).length ≤ l.length := by
  have h := foldN_len (l.filter (isMine w at_)) []
  have := List.length_filter_le (isMine w at_) l
  unfold lasts
  simp only [List.length_nil, Nat.zero_add] at h
  omega
def inQ (q : Qs) (d : Dn) : Bool := !nUndone d && (decide (qFrom q ≤ nAt d) && decide (nAt d < qTo q))
def pay (q : Qs) (n : Int) : Int :=
  IntKind.i64.wrap ((if (decide (qTimes q < (IntKind.i64.wrap (Int.tdiv n (qRides q))))) then qTimes q else (IntKind.i64.wrap (Int.tdiv n (qRides q)))) * qCents q)
def payRow (q : Qs) (n : Int) : List Pr := bif decide (pay q n > 0) then [(q.1, numeral (pay q n), ())] else []
theorem payRow_len (q : Qs) (n : Int) : (payRow q n).length ≤ 1 := by
  unfold payRow
  cases decide (pay q n > 0) <;> simp
def paid (ds : List Dn) (qs : List Qs) : List Pr := qs.flatMap fun q => payRow q (ds.countP (inQ q))
def payStep (ds : List Dn) (o : List Pr) (q : Qs) : List Pr := o ++ payRow q (ds.countP (inQ q))
theorem paid_fold (ds : List Dn) : ∀ (qs : List Qs) (o : List Pr), qs.foldl (payStep ds) o = o ++ paid ds qs
  | [], o => by simp [paid]
  | q :: qs, o => by
    rw [List.foldl_cons, paid_fold ds qs]
    simp [payStep, paid]
theorem wrap_in (n : Int) : -9223372036854775808 ≤ IntKind.i64.wrap n ∧ IntKind.i64.wrap n ≤ 9223372036854775807 := by
  unfold IntKind.wrap
  simp [IntKind.signed, IntKind.bits]
  split <;> omega
theorem pay_text (q : Qs) (n : Int) : s30 (pay q n) = some (numeral (pay q n), ()) := by
  unfold s30 s49
  exact if_pos (wrap_in _)
end Go.Vm
