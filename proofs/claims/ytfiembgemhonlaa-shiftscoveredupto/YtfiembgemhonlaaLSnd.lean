/- The program's functions are what the specs say. -/
import Derived.Test.YtfiembgemhonlaaLSpec
import Derived.Test.YtfiembgemhonlaaLSort
import Derived.Test.YtfiembgemhonlaaBSnd
set_option maxRecDepth 100000
set_option linter.unusedVariables false
namespace Go.Vm
open Go.Proofs
/-! ### jitney/jitref2.Moment -/
/-! ### jitney/jitlaw2.momentFault -/
/-! ### jitney/base.Moment -/
/-! ### jitney/fleet.CheckTrips -/
theorem S146 : SoundF Try.prog 146 (.fn (.cons (.slice (.struct (.cons .str (.cons (.struct (.cons (.int .i64) (.cons (.int .i64) .nil))) (.cons (.int .i64) (.cons (.int .i64) .nil)))))) .nil) (.cons (.int .i64) .nil) fun x => (s146 x.1, ())) :=
  fn_sound (E := fun k => mkEnv ts146 (fs146 s113 s114)) (H := H146) (fun k => mkEnv_ok ty146 (fun p hp => by
    unfold fs146 at hp
    rcases List.mem_cons.1 hp with rfl | hp
    · exact S113
    rcases List.mem_cons.1 hp with rfl | hp
    · exact S114
    cases hp)) mixedOK (by kernel_rfl : Try.prog.funcs[146]? = some Try.f146) (by kernel_rfl) (by kernel_rfl : Try.f146.body = some body146) (by kernel_rfl) (by kernel_rfl)
    (fun x hw => by obtain ⟨k, hk⟩ := h146 x.1 hw; exact ⟨k, (ev146 s113 s114 k x).trans hk⟩)
/-! ### jitney/fleet.chargedFault -/
/-! ### jitney/fleet.levelFault -/
/-! ### jitney/fleet.own -/
theorem S147 : SoundF Try.prog 147 (.pfn (.cons (.slice (.struct (.cons .str (.cons (.struct (.cons (.int .i64) (.cons (.int .i64) .nil))) (.cons (.int .i64) (.cons (.int .i64) .nil)))))) (.cons .str .nil)) (.cons (.slice (.struct (.cons .str (.cons (.struct (.cons (.int .i64) (.cons (.int .i64) .nil))) (.cons (.int .i64) (.cons (.int .i64) .nil)))))) .nil) fun x => s147 x.1 x.2.1) :=
  pfn_sound (E := fun k => mkEnv ts147 (fs147 )) (H := H147) (fun k => mkEnv_ok ty147 (fun p hp => by unfold fs147 at hp; cases hp)) mixedOK (by kernel_rfl : Try.prog.funcs[147]? = some Try.f147) (by kernel_rfl) (by kernel_rfl : Try.f147.body = some body147) (by kernel_rfl) (by kernel_rfl)
    (fun x y hw hy => by obtain ⟨k, hk⟩ := h147 x.1 x.2.1 y hw hy; exact ⟨k, (ev147  k x).trans hk⟩)
/-! ### jitney/fleet.turns$1 -/
/-! ### jitney/fleet.turns -/
/-! ### jitney/fleet.levelAt -/
/-! ### jitney/fleet.Level -/
set_option maxHeartbeats 2000000 in
theorem walk38 (a : Option Addr) (c : Nat) (w : World) : Calls Try.prog 38 #[.slice a 0 c] w fun e w' => ∃ a' c', e = .returned (.slice a' 0 c') ∧ c' ≤ 9223372036854775807 ∧ Keep None w w' := by
  have q : ∀ (w : World) (a : Option Addr) (n c n' c' : Nat), (binOp .eql 56 (.slice a n c) (.slice none n' c')).run Try.prog w = .ok (.bool a.isNone) w := fun w a n c n' c' => Lib.run_eql_slice_nil w _ _ a n c n' c' Try.underlying56
  cases a with
  | none =>
    go_enter Try.func38, Try.ntmps38
    go_wp2
    go_ret
    exact ⟨none, 0, rfl, by omega, Keep.refl _ _⟩
  | some a =>
    go_enter Try.func38, Try.ntmps38
    go_wp2
    go_ret
    exact ⟨_, _, rfl, by omega, Keep.alloc _ _ _ _⟩
theorem cl38 (xs : List (ByteArray × (Int × Int × Unit) × Int × Int × Unit)) (hne : xs ≠ []) (hl : xs.length ≤ 4294967296) : f38 0 xs = some (xs, ()) := by
  cases xs with
  | nil => exact absurd rfl hne
  | cons z l =>
    have h2 : decide (List.length ([] : List (ByteArray × (Int × Int × Unit) × Int × Int × Unit)) + List.length (z :: l) ≤ 4294967296) = true := by simpa using hl
    unfold f38
    rw [show Nat.ble (List.length (z :: l)) 0 = false from rfl, h2]
    rfl
theorem S38 : SoundF Try.prog 38 (.pfn (.cons (.slice (.struct (.cons .str (.cons (.struct (.cons (.int .i64) (.cons (.int .i64) .nil))) (.cons (.int .i64) (.cons (.int .i64) .nil)))))) .nil) (.cons (.slice (.struct (.cons .str (.cons (.struct (.cons (.int .i64) (.cons (.int .i64) .nil))) (.cons (.int .i64) (.cons (.int .i64) .nil)))))) .nil) fun x => s38 x.1) := by
  intro ρ args objs K r hr
  exact clone_sound (T := (.struct (.cons .str (.cons (.struct (.cons (.int .i64) (.cons (.int .i64) .nil))) (.cons (.int .i64) (.cons (.int .i64) .nil)))))) (g1 := fun x => f38 0 x.1) (pfn_sound (E := fun _ => mkEnv ts38 fs38) (H := H38) (fun _ => mkEnv_ok ty38 (fun p hp => by unfold fs38 at hp; cases hp)) mixedOK (by kernel_rfl : Try.prog.funcs[38]? = some Try.f38) (by kernel_rfl) (by kernel_rfl : Try.f38.body = some body38) (by kernel_rfl) (by kernel_rfl) (fun x y hw hy => ⟨0, (ev38 0 x).trans hy⟩)) (enters_of (by kernel_rfl : Try.prog.funcs[38]? = some Try.f38) (by kernel_rfl) (by kernel_rfl : Try.f38.body = some body38))
    (fun xs hne hl => cl38 xs hne hl) walk38 args objs K r hr
/-! ### jitney/fleet.Low -/
/-! ### jitney/jitref2.RunsFault -/
theorem S41 : SoundF Try.prog 41 (.fn (.cons (.slice (.struct (.cons .str (.cons (.struct (.cons (.int .i64) (.cons (.int .i64) .nil))) (.cons (.int .i64) (.cons (.int .i64) .nil)))))) .nil) (.cons (.int .i64) .nil) fun x => (s41 x.1, ())) :=
  fn_sound (E := fun k => mkEnv ts41 (fs41 s31 s115)) (H := H41) (fun k => mkEnv_ok ty41 (fun p hp => by
    unfold fs41 at hp
    rcases List.mem_cons.1 hp with rfl | hp
    · exact S31
    rcases List.mem_cons.1 hp with rfl | hp
    · exact S115
    cases hp)) mixedOK (by kernel_rfl : Try.prog.funcs[41]? = some Try.f41) (by kernel_rfl) (by kernel_rfl : Try.f41.body = some body41) (by kernel_rfl) (by kernel_rfl)
    (fun x hw => by obtain ⟨k, hk⟩ := h41 x.1 hw; exact ⟨k, (ev41 s31 s115 k x).trans hk⟩)
/-! ### jitney/jitref2.ChargedFault -/
/-! ### slices.Compare[[]int,int] -/
/-! ### jitney/jitref2.levelsOf$1 -/
/-! ### jitney/jitref2.levelsOf -/
/-! ### jitney/jitref2.LevelAt -/
/-! ### slices.Min[[]int,int] -/
/-! ### jitney/jitref2.LowOf -/
/-! ### jitney/jitlaw2.LevelsReckoned -/
end Go.Vm
