/- strings.Builder: what copyCheck and String do to the world, exactly (after the kit's own walks). Own work. -/
import Derived.Test.YtbjpkdbneopgkaaGreatDoorAShelf
import Derived.Test.YtbjpkdbneopgkaaGreatDoorVmD
import Derived.WalkKit
set_option linter.unusedVariables false
set_option linter.unusedSimpArgs false
namespace Go.Proofs
open Go.Shelf Go.RowKit
variable {P : Program} {ρ : Ren}
set_option maxHeartbeats 2000000 in
set_option maxRecDepth 100000 in
theorem bldString (L : Lays.n169 P ρ) (X : Builder.Extra P ρ) (b : Nat) (p v : Value) (q : Option Addr) (n : Nat) (r : ByteArray) (w w' : World) (hbk : w.heap[b]? = some (.cells #[p, v] (ρ.t 72) (0, 0)))
    (hlen : ∃ ao c, v = .slice ao n c) (hSD : (Builtin.unsafeSliceData_ #[(ρ.t 37)] (ρ.t 127) #[v]).run P w.drew = .ok (.pointer q) w.drew)
    (hUS : (Builtin.unsafeString_ #[(ρ.t 127), (ρ.t 3)] (ρ.t 9) #[.pointer q, .int .i64 n]).run P w.drew = .ok (.string r) w') :
    Calls P (ρ.f 169) #[.pointer (some ⟨b, 0, none⟩)] w fun e w2 => e = .returned (.string r) ∧ w2 = w' := by
  obtain ⟨ao, c, rfl⟩ := hlen
  have c1 : w.drew.cell? ⟨b, 1, none⟩ = some (.slice ao n c) := by
    have : w.drew.heap[b]? = some (.cells #[p, .slice ao n c] (ρ.t 72) (0, 0)) := hbk
    rw [Lib.cell_of_heap this]; rfl
  have mixed := L.mixed
  have t72 := L.t72; have a72 := L.a72; have z72 := L.z72; have v72 := L.v72; have u72 := run_underlying L.t72
  have t70 := L.t70; have a70 := L.a70; have z70 := L.z70; have v70 := L.v70; have u70 := run_underlying L.t70
  have t37 := L.t37; have a37 := L.a37; have z37 := L.z37; have v37 := L.v37; have u37 := run_underlying L.t37
  have t127 := L.t127; have a127 := L.a127; have z127 := L.z127; have v127 := L.v127; have u127 := run_underlying L.t127
  have t3 := L.t3; have a3 := L.a3; have z3 := L.z3; have v3 := L.v3; have u3 := run_underlying L.t3
  have t9 := L.t9; have a9 := L.a9; have z9 := L.z9; have v9 := L.v9; have u9 := run_underlying L.t9
  have t5 := X.t5; have a5 := X.a5; have z5 := X.z5; have v5 := X.v5; have u5 := run_underlying X.t5
  go_enter L.f169, Body.n169_ntmps ρ
  go_wp2
  go_region_o
  all_goals (go_wp2; go_ret; exact ⟨rfl, rfl⟩)
end Go.Proofs
