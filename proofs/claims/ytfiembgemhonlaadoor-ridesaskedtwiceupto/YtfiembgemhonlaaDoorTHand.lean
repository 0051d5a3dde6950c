/- RidesAskedTwice: strings.Repeat, as the kit has it. Own work. -/
import Derived.Test.YtfiembgemhonlaaDoorTShelf
import Derived.Test.YtfiembgemhonlaaDoorUHand
import Derived.Lib.Repeat
set_option linter.unusedVariables false
set_option linter.unusedSimpArgs false
namespace Go.Vm
open Go.RowKit Go.Proofs Go.Lib
theorem keep_of_below {w w' : World} (h : Below w.heap.size w w') : Keep None w w' :=
  ⟨h.os, h.tape, h.output, h.size, fun m => False.elim m, fun a ha => by simp only [World.frozen?]; rw [h.block a.block ha], fun b hb _ => h.block b hb, fun b cs t z hb => ⟨cs, by rw [h.block b (heap_lt hb)]; exact hb⟩⟩
def copies (s : ByteArray) (n : Nat) : ByteArray := ⟨(Lib.repeatL s.data.toList n).toArray⟩
theorem copies_size (s : ByteArray) (n : Nat) : (copies s n).size = s.size * n := by
  show (Lib.repeatL s.data.toList n).toArray.size = _
  rw [List.size_toArray, Lib.repeatL_length, Array.length_toList, Nat.mul_comm]
  rfl
def s73 (s : ByteArray) (n : Int) : Option (ByteArray × Unit) := if 0 ≤ n ∧ n ≤ 9223372036854775807 ∧ s.size * n.toNat ≤ 140737488355328 then some (copies s n.toNat, ()) else none
noncomputable def body73 : Code := match Tryd.f73.body with | some c => c | none => .skip
theorem S73 : SoundF Tryd.prog 73 (.pfn (.cons .str (.cons (.int .i64) .nil)) (.cons .str .nil) fun x => s73 x.1 x.2.1) :=
  leaf_sound (enters_of (by kernel_rfl : Tryd.prog.funcs[73]? = some Tryd.f73) (by kernel_rfl) (by kernel_rfl : Tryd.f73.body = some body73)) (fun x y hwf hy w A μ vals hv => by
    unfold s73 at hy
    split at hy
    rotate_left
    · cases hy
    rename_i hr
    cases hy
    simp only [explodes, explode, TRs] at hv
    obtain ⟨v, rest, rfl, hv, v2, rest2, rfl, hv2, rfl⟩ := hv
    have e1 := VR.str (ob := obs []) (μ := μ) hv
    have e2 := VR.int (ob := obs []) (μ := μ) hv2
    subst e1 e2
    have hn : ((x.2.1.toNat : Nat) : Int) = x.2.1 := Int.toNat_of_nonneg hr.1
    have := Tryd.strings_Repeat x.1 x.2.1.toNat w (by have := hr.2.1; omega) hr.2.2
    rw [hn] at this
    refine this.mono ?_
    rintro e w' ⟨rfl, hb⟩
    refine ⟨_, rfl, keep_of_below hb, VR.mk_str _ ?_⟩
    have := copies_size x.1 x.2.1.toNat
    show (copies x.1 x.2.1.toNat).size ≤ 9223372036854775807
    omega)
end Go.Vm
