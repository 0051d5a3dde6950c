/- ShiftsCovered: who is tired. Own work. -/
import Derived.Test.YtfiembgemhonlaaSSpecD
set_option linter.unusedVariables false
set_option linter.unusedSimpArgs false
namespace Go.Vm
open Go.RowKit Go.Vm.Gain
/-- what was driven since the last long break, at each trip -/
def workAt (br : Int) (l : List Run) : Nat → Int
  | 0 => 0
  | k + 1 => match l[k + 1]?, l[k]? with
    | some x, some p => if x.2.1.1 - p.2.1.2.1 < br then workAt br l k + (p.2.1.2.1 - p.2.1.1) else 0
    | _, _ => 0
def tiredTo (r : Int × Int × Unit) (l : List Run) : Nat → List Int
  | 0 => []
  | k + 1 => if workAt r.2.1 l k ≥ r.1 then tiredTo r l k ++ [(k : Int)] else tiredTo r l k
def tired (r : Int × Int × Unit) (l : List Run) : List Int := tiredTo r l l.length
/-- the trips of a vehicle -/
def mine (t : List Run) (v : ByteArray) : List Run := t.filter fun x => sEq x.1 v
def s49 (r : Int × Int × Unit) (t : List Run) (v : ByteArray) : Option (List Int × Int × Unit) :=
  if restBad r then some ([], 1, ()) else if runsFault t = 0 then (if key v then some (tired r (mine t v), 0, ()) else some ([], 5, ())) else some ([], runsFault t, ())
end Go.Vm
