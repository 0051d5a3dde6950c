/- VehiclesReady: texts that are short. Own work. -/
import Derived.Test.YtjkidhjkpkcnhaaGreatDoorVSpec
import Derived.Test.YtjkidhjkpkcnhaaGreatDoorVmD
set_option linter.unusedVariables false
namespace Go.Vm
open Go.RowKit
theorem mem_le_sum {n : Nat} : ∀ {l : List Nat}, n ∈ l → n ≤ l.sum
  | [], h => by cases h
  | x :: l, h => by
    rw [List.sum_cons]
    rcases List.mem_cons.1 h with rfl | h
    · omega
    · have := mem_le_sum h; omega
theorem sm_of_bulk (l : List Par) (h : bulk (.slice (.struct (.cons .str (.cons .str .nil)))) l ≤ 1048576) : smOK l = true := by
  unfold smOK
  rw [List.all_eq_true]
  intro p hp
  have e : bulk (.slice (.struct (.cons .str (.cons .str .nil)))) l = (List.map (fun x : Par => bulk (.struct (.cons .str (.cons .str .nil))) x) l).sum + 1 := by
    simp only [bulk]
    rfl
  have e2 : bulk (.struct (.cons .str (.cons .str .nil))) p = (p.1.size + 1) + (p.2.1.size + 1 + 0) + 1 := by
    simp only [bulk, bulks]
  have h1 : bulk (.struct (.cons .str (.cons .str .nil))) p ≤ (List.map (fun x : Par => bulk (.struct (.cons .str (.cons .str .nil))) x) l).sum := mem_le_sum (List.mem_map.2 ⟨p, hp, rfl⟩)
  rw [e2] at h1
  rw [e] at h
  exact decide_eq_true (by omega)
end Go.Vm
