/- LevelsReckoned: what is wrong with trips and charges. Own work. -/
import Derived.Test.YtfiembgemhonlaaBSp
import Derived.Test.YtfiembgemhonlaaLFn
import Derived.Test.YtfiembgemhonlaaVmS
set_option linter.unusedVariables false
set_option linter.unusedSimpArgs false
namespace Go.Vm
open Go.RowKit Go.Vm.Gain
abbrev Run := ByteArray × (Int × Int × Unit) × Int × Int × Unit
theorem in_not_out (a b c : Int) : (!s115 a b c) = s114 a b c := by
  unfold s115 s114
  rw [Bool.not_and]
  congr 1
  · rw [← decide_not]; congr 1; apply propext; omega
  · rw [← decide_not]; congr 1; apply propext; omega
/-! ### moments -/
def s125 (a : Int) : Bool := !s114 a 0 345686399999
def s121 (a : Int) : Bool := !s114 a 0 345686399999
def s32 (a : Int) : Int := s21 (s114 a 0 345686399999) 1
theorem h125 (a : Int) (hw : WFs A125 (a, ())) : ∃ k, f125 s115 k a = some (s125 a, ()) := ⟨0, by unfold f125 s125; rw [← in_not_out]; simp⟩
theorem h121 (a : Int) (hw : WFs A121 (a, ())) : ∃ k, f121 s114 k a = some (s121 a, ()) := ⟨0, rfl⟩
theorem h32 (a : Int) (hw : WFs A32 (a, ())) : ∃ k, f32 s21 s125 k a = some (s32 a, ()) := ⟨0, by unfold f32 s125 s32; simp⟩
/-! ### trips -/
/-! ### charges -/
end Go.Vm

/- LevelsReckoned: what happens to a level. Own work. -/
set_option linter.unusedVariables false
set_option linter.unusedSimpArgs false
namespace Go.Vm
open Go.RowKit Go.Vm.Gain
section
variable {α γ ρ : Type}
end
/-! ### the order -/
/-! ### the things that happen -/
/-! ### levels -/
end Go.Vm

/- LevelsReckoned: levels. Own work. -/
set_option linter.unusedVariables false
set_option linter.unusedSimpArgs false
namespace Go.Vm
open Go.RowKit Go.Vm.Gain
/-! ### the program's -/
end Go.Vm

/- LevelsReckoned, the law. Own work. -/
set_option linter.unusedVariables false
set_option linter.unusedSimpArgs false
namespace Go.Vm
open Go.RowKit Go.Vm.Gain
theorem nzp (a b : Int) : nz [a, b] = if a = 0 then b else a := by
  simp only [nz]
  by_cases ha : a = 0
  · by_cases hb : b = 0 <;> simp [ha, hb]
  · simp [ha]
end Go.Vm
