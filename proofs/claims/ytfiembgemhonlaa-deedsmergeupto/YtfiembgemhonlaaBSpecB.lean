/- Lists that are checked. Own work. -/
import Derived.Test.YtfiembgemhonlaaBSpec
set_option linter.unusedVariables false
set_option linter.unusedSimpArgs false
namespace Go.Vm
open Go.RowKit
def leS (a b : ByteArray) : Bool := sLt a b || sEq a b
/-- what is wrong with a list in the order of its keys -/
def chk {α : Type} (kf : α → ByteArray) (φ : α → Int) : Option ByteArray → List α → Int
  | _, [] => 0
  | p, x :: l => bif !key (kf x) then 5 else bif (match p with | none => false | some q => leS (kf x) q) then 7 else bif φ x != 0 then φ x else chk kf φ (some (kf x)) l
/-! ### vehicles, places -/
abbrev Veh := ByteArray × Int × Int × Int × Int × Unit
abbrev Plc := ByteArray × Int × Int × Unit
def vehBad (v : Veh) : Int := bif s114 v.2.1 1 1000000 then 1 else bif s114 v.2.2.1 0 v.2.1 then 1 else bif s114 v.2.2.2.1 1 1000000 then 1 else bif s114 v.2.2.2.2.1 0 1000 then 1 else 0
def plcBad (v : Plc) : Int := bif s114 v.2.1 1 50 then 1 else bif s114 v.2.2.1 1 1000000 then 1 else 0
def vehsFault (l : List Veh) : Int := if l.length > 200 then 2 else chk (·.1) vehBad none l
def plcsFault (l : List Plc) : Int := if l.length > 50 then 2 else chk (·.1) plcBad none l
theorem len_gt {α : Type} (l : List α) (n : Nat) : decide ((l.length : Int) > (n : Int)) = decide (l.length > n) := by congr 1; apply propext; omega
def s12 := vehsFault
def s14 := vehsFault
def s15 := plcsFault
def s17 := plcsFault
end Go.Vm
