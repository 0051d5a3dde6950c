/- Charging: what is gained, and how long it takes. Plain law. Own work. -/
import Derived.Test.YtfiembgemhonlaaVmC
namespace Go.Vm.Gain
/-- a / b rounded up -/
def cd (a b : Int) : Int := (a + b - 1).tdiv b
/-- how long it takes -/
def need (L S f g T : Int) : Int :=
  if L < S ∧ L < T then
    (if L + min (cd (S - L) f) (cd (T - L) f) * f < T then min (cd (S - L) f) (cd (T - L) f) + cd (T - (L + min (cd (S - L) f) (cd (T - L) f) * f)) g else min (cd (S - L) f) (cd (T - L) f))
  else (if L < T then 0 + cd (T - L) g else 0)
end Go.Vm.Gain
