/- LevelsReckoned: what is wrong with trips and charges. Own work. -/
import Derived.Test.YtfiembgemhonlaaBSpecF
import Derived.Test.YtfiembgemhonlaaLFn
import Derived.Test.YtfiembgemhonlaaVmS
set_option linter.unusedVariables false
set_option linter.unusedSimpArgs false
namespace Go.Vm
open Go.RowKit Go.Vm.Gain
abbrev Run := ByteArray × (Int × Int × Unit) × Int × Int × Unit
abbrev Chg := ByteArray × ByteArray × Int × Int × Int × Unit
abbrev Trn := Int × Int × Int × Unit
theorem in_not_out (a b c : Int) : (!s115 a b c) = s114 a b c := by
  unfold s115 s114
  rw [Bool.not_and]
  congr 1
  · rw [← decide_not]; congr 1; apply propext; omega
  · rw [← decide_not]; congr 1; apply propext; omega
/-! ### moments -/
def s125 (a : Int) : Bool := !s114 a 0 345686399999
def s121 (a : Int) : Bool := !s114 a 0 345686399999
def s32 (a : Int) : Int := s21 (s114 a 0 345686399999) 1
theorem h125 (a : Int) (hw : WFs A125 (a, ())) : ∃ k, f125 s115 k a = some (s125 a, ()) := ⟨0, by unfold f125 s125; rw [← in_not_out]; simp⟩
theorem h121 (a : Int) (hw : WFs A121 (a, ())) : ∃ k, f121 s114 k a = some (s121 a, ()) := ⟨0, rfl⟩
theorem h32 (a : Int) (hw : WFs A32 (a, ())) : ∃ k, f32 s21 s125 k a = some (s32 a, ()) := ⟨0, by unfold f32 s125 s32; simp⟩
/-! ### trips -/
def runBad (t : Run) : Bool := decide (t.2.1.1 < 0) || (decide (t.2.1.1 ≥ t.2.1.2.1) || (decide (t.2.1.2.1 > 345686400000) || (s114 t.2.2.1 0 1000000000 || s114 t.2.2.2.1 0 1000000)))
def runB (t : Run) (p : Option Run) : Option Run ⊕ ((Int × Unit) ⊕ (Unit × Unit)) :=
  bif !key t.1 then .inr (.inl (5, ())) else bif runBad t then .inr (.inl (1, ())) else match p with
    | none => .inl (some t)
    | some o => bif sLt t.1 o.1 then .inr (.inl (7, ())) else bif sEq t.1 o.1 then bif decide (t.2.1.1 < o.2.1.2.1) then .inr (.inl (7, ())) else .inl (some t) else .inl (some t)
def runsFault (l : List Run) : Int := if l.length > 1000 then 2 else out1 (scan (fun _ => runB) (fun _ => .inr ((), ())) l 0 none)
def s146 := runsFault
def s41 := runsFault
/-! ### charges -/
def chgBad (c : Chg) : Bool := (!(c.2.2.1 == -1 && c.2.2.2.1 == -1) && (s114 c.2.2.1 0 c.2.2.2.1 || decide (c.2.2.2.1 > 345686400000))) || s114 c.2.2.2.2.1 0 1000000
def chgB (c : Chg) (_ : Unit) : Unit ⊕ ((Int × Unit) ⊕ (Unit × Unit)) :=
  bif !key c.1 then .inr (.inl (5, ())) else bif !key c.2.1 then .inr (.inl (5, ())) else bif chgBad c then .inr (.inl (1, ())) else .inl ()
def chgsFault (l : List Chg) : Int := if l.length > 1000 then 2 else out1 (scan (fun _ => chgB) (fun _ => .inr ((), ())) l 0 ())
def s215 := chgsFault
def s42 := chgsFault
end Go.Vm
