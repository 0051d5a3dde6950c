/- LevelsReckoned: levels. Own work. -/
import Derived.Test.YtfiembgemhonlaaLSpecB
set_option linter.unusedVariables false
set_option linter.unusedSimpArgs false
namespace Go.Vm
open Go.RowKit Go.Vm.Gain
def allv (at_ : Int) : Int → Int → List Trn → Int
  | m, _, [] => m
  | m, n, t :: l => allv at_ (bif decide (t.1 ≤ at_) then stp n t else m) (stp n t) l
def s43 (v : ByteArray) (t : List Run) (c : List Chg) (st at_ : Int) : Option (Int × Unit) := if t.length + c.length ≤ 4294967290 then some (allv at_ st st (trns v t c), ()) else none
def mn (m y : Int) : Int := if decide (y < m) then y else m
def s44 (v : ByteArray) (t : List Run) (c : List Chg) (st : Int) : Option (Int × Unit) := if t.length + c.length ≤ 4294967290 then some ((lvs st (trns v t c)).foldl mn st, ()) else none
/-! ### the program's -/
def s136 (v : Veh) (t : List Run) (c : List Chg) (st : Int) : Int := if nz [s12 [v], s146 t, s215 c] = 0 then s21 (s114 st 0 v.2.1) 1 else nz [s12 [v], s146 t, s215 c]
def s37 (v : Veh) (t : List Run) (c : List Chg) (st at_ : Int) : Option (Int × Int × Unit) := f37 s121 s136 s137 0 v t c st at_
def lows : Int → Int → List Trn → Int
  | _, m, [] => m
  | n, m, t :: l => bif decide (t.1 > 345686400000) then m else lows (stp n t) (mn m (stp n t)) l
def s40 (v : Veh) (t : List Run) (c : List Chg) (st : Int) : Option (Int × Int × Unit) :=
  if s136 v t c st = 0 then (if t.length + c.length ≤ 4294967295 then some (lows st st (trns v.1 t c), 0, ()) else none) else some (0, s136 v t c st, ())
end Go.Vm
