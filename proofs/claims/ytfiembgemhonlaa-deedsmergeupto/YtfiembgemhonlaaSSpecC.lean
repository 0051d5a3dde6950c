/- ShiftsCovered: when few are on. Own work. -/
import Derived.Test.YtfiembgemhonlaaSSpecB
set_option linter.unusedVariables false
set_option linter.unusedSimpArgs false
namespace Go.Vm
open Go.RowKit Go.Vm.Gain
def ieq (a b : Int) : Bool := a == b
/-! ### lists that rise -/
/-! ### the moments at which something changes -/
def edges (p : Int → Bool) (l : List Wd) (acc : List Int) : List Int := l.foldl (fun acc x => acc ++ [x.1, x.2.1].filter p) acc
def times (l : List Wd) (w : Wd) : List Int := dedup ieq (sortInt (edges (fun t => decide (t > w.1) && decide (t < w.2.1)) l [w.1, w.2.1]))
/-- the moments between which few are on -/
def thinStep (l : List Wd) (many : Int) (p : Int × Int) (out : List Wd) : List Wd :=
  if s149 l p.1 ≥ many then out else
    match out.getLast? with
    | some o => if o.2.1 == p.1 then out.set (out.length - 1) (o.1, p.2, o.2.2) else out ++ [(p.1, p.2, ())]
    | none => out ++ [(p.1, p.2, ())]
def thin (l : List Wd) (many : Int) (ts : List Int) : List Wd := (List.zip ts (ts.drop 1)).foldl (fun out p => thinStep l many p out) []
end Go.Vm
