/- BonusesPaid: small functions. Own work. -/
import Derived.Test.YtfiembgemhonlaaDoorUSpecA
set_option linter.unusedVariables false
set_option linter.unusedSimpArgs false
namespace Go.Vm
open Go.RowKit Go.Vm.Gain
abbrev Dn : Type := ByteArray × ByteArray × Int × Bool × Unit
abbrev Qs : Type := ByteArray × (Int × Int × Unit) × Int × Int × Int × Unit
abbrev Pr : Type := ByteArray × ByteArray × Unit
abbrev nWho (d : Dn) : ByteArray := d.1
abbrev nRide (d : Dn) : ByteArray := d.2.1
abbrev nAt (d : Dn) : Int := d.2.2.1
abbrev nUndone (d : Dn) : Bool := d.2.2.2.1
def drCmp : Dn → Dn → Int := lexC (fun a b => cmpS (nWho a) (nWho b)) (fun a b => cmpS (nRide a) (nRide b))
theorem drCmp_ok : CmpOK drCmp (fun _ => True) := (cmpS_ok.on nWho).lex (cmpS_ok.on nRide)
def s29 (a b : Dn) : Int := drCmp a b
theorem h29 (a b : Dn) (hw : WFs A29 (a, b, ())) : ∃ k, f29 s38 s48 k a b = some (s29 a b, ()) := ⟨0, by
  unfold f29 s29 s38
  rw [nzp]
  rfl⟩
def s28 (who : ByteArray) (at_ : Int) : Int := bif !key who then 5 else bif !s37 at_ then 1 else 0
theorem h28 (who : ByteArray) (at_ : Int) (hw : WFs A28 (who, at_, ())) : ∃ k, f28 s36 s37 k who at_ = some (s28 who at_, ()) := ⟨0, by
  unfold f28 s28
  simp only [cond_one]
  rfl⟩
def s30 (n : Int) : Option (ByteArray × Unit) := s49 n
theorem h30 (n : Int) (y : ByteArray × Unit) (hw : WFs A30 (n, ())) (h : s30 n = some y) : ∃ k, f30 s49 k n = some y := ⟨0, by
  unfold f30
  rw [show s49 n = some y from h]
  rfl⟩
def s35 (n : Int) (w : Int × Int × Unit) : Bool := decide (w.1 ≤ n) && decide (n < w.2.1)
theorem h35 (n : Int) (w : Int × Int × Unit) (hw : WFs A35 (n, w, ())) : ∃ k, f35 k n w = some (s35 n w, ()) := ⟨0, by
  unfold f35 s35
  cases decide (w.1 ≤ n) <;> rfl⟩
/-- the order of what was done -/
def dnCmp : Dn → Dn → Int := lexC drCmp (fun a b => cmpI (nAt a) (nAt b))
theorem dnCmp_ok : CmpOK dnCmp (fun _ => True) := drCmp_ok.lex (cmpI_ok.on nAt)
end Go.Vm
