/- strings.Repeat (seat r4.ZD). Own work. -/
import Derived.Test.YtbjpkdbneopgkaaGreatDoorAHand
import Derived.Lib.Repeat
set_option linter.unusedVariables false
set_option linter.unusedSimpArgs false
namespace Go.Vm
open Go.RowKit Go.Proofs Go.Lib Go.Sort
def copies (s : ByteArray) (n : Nat) : ByteArray := ⟨(Lib.repeatL s.data.toList n).toArray⟩
theorem copies_size (s : ByteArray) (n : Nat) : (copies s n).size = s.size * n := by
  show (Lib.repeatL s.data.toList n).toArray.size = _
  rw [List.size_toArray, Lib.repeatL_length, Array.length_toList, Nat.mul_comm]
  rfl
def s126 (s : ByteArray) (n : Int) : Option (ByteArray × Unit) := if 0 ≤ n ∧ n ≤ 9223372036854775807 ∧ s.size * n.toNat ≤ 140737488355328 then some (copies s n.toNat, ()) else none
noncomputable def body126 : Code := match Tryz.f126.body with | some c => c | none => .skip
theorem S126 : SoundF Tryz.prog 126 (.pfn (.cons .str (.cons (.int .i64) .nil)) (.cons .str .nil) fun x => s126 x.1 x.2.1) :=
  leaf_sound (enters_of (by kernel_rfl : Tryz.prog.funcs[126]? = some Tryz.f126) (by kernel_rfl) (by kernel_rfl : Tryz.f126.body = some body126)) (fun x y hwf hy w A μ vals hv => by
    unfold s126 at hy
    split at hy
    rotate_left
    · cases hy
    rename_i hr
    cases hy
    simp only [explodes, explode, TRs] at hv
    obtain ⟨v, rest, rfl, hv, v2, rest2, rfl, hv2, rfl⟩ := hv
    have e1 := VR.str (ob := obs []) (μ := μ) hv
    have e2 := VR.int (ob := obs []) (μ := μ) hv2
    subst e1 e2
    have hn : ((x.2.1.toNat : Nat) : Int) = x.2.1 := Int.toNat_of_nonneg hr.1
    have := Tryz.strings_Repeat x.1 x.2.1.toNat w (by have := hr.2.1; omega) hr.2.2
    rw [hn] at this
    refine this.mono ?_
    rintro e w' ⟨rfl, hb⟩
    refine ⟨_, rfl, keep_of_below hb, VR.mk_str _ ?_⟩
    have := copies_size x.1 x.2.1.toNat
    show (copies x.1 x.2.1.toNat).size ≤ 9223372036854775807
    omega)
end Go.Vm
