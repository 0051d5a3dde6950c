/- SeriesRide: lists that are short. Own work. -/
import Derived.Test.YtjkidhjkpkcnhaaGreatDoorWSpec
import Derived.Test.YtjkidhjkpkcnhaaGreatDoorVmD
import Derived.JoinedCond
import Derived.Test.YtjkidhjkpkcnhaaGreatDoorProg
import Derived.Test.YtjkidhjkpkcnhaaGreatDoorRows
set_option linter.unusedVariables false
namespace Go.Vm
open Go.RowKit
theorem mem_le_sum {n : Nat} : ∀ {l : List Nat}, n ∈ l → n ≤ l.sum
  | [], h => by cases h
  | x :: l, h => by
    rw [List.sum_cons]
    rcases List.mem_cons.1 h with rfl | h
    · omega
    · have := mem_le_sum h; omega
theorem ch_of_bulk (x : Sr2) (h : bulk WY4 x ≤ 1048576) : (chsOf x).length ≤ 1048576 := by
  have e : bulk WY4 x = bulks (.cons .str (.cons .str (.cons .str (.cons .str (.cons (.int .i64) (.cons (.int .i64) (.cons (.int .i64) (.cons (.int .i64) (.cons (.int .i64) (.cons (.int .i64) (.cons (.int .i64) (.cons (.int .i64) (.cons (.int .i64) (.cons (.slice WY2) .nil)))))))))))))) x + 1 := by simp only [bulk]
  rw [e] at h
  simp only [bulks] at h
  have h2 : bulk (.slice WY2) x.2.2.2.2.2.2.2.2.2.2.2.2.2.1 ≤ 1048576 := by omega
  exact len_bulk _ _ h2
theorem sr_of_bulk (l : List Sr2) (h : bulk (.slice WY4) l ≤ 1048576) : srOK l = true := by
  unfold srOK
  rw [List.all_eq_true]
  intro p hp
  have e : bulk (.slice WY4) l = (List.map (fun x : Sr2 => bulk WY4 x) l).sum + 1 := by
    simp only [bulk]
    rfl
  have h1 : bulk WY4 p ≤ (List.map (fun x : Sr2 => bulk WY4 x) l).sum := mem_le_sum (List.mem_map.2 ⟨p, hp, rfl⟩)
  rw [e] at h
  have := ch_of_bulk p (by omega)
  exact decide_eq_true (by omega)
theorem sr_one (x : Sr2) (h : bulk WY4 x ≤ 1048576) : srOK [x] = true := by
  unfold srOK
  rw [List.all_eq_true]
  intro p hp
  rw [List.mem_singleton] at hp
  subst hp
  have := ch_of_bulk p h
  exact decide_eq_true (by omega)
end Go.Vm

/- CheckRide, CheckRiders, CheckSeries, Days, Rides and Same are as specified for all rides and series What its row says of the program. Own work. -/
set_option linter.unusedVariables false
set_option maxRecDepth 100000
namespace Go.Proofs.YtjkidhjkpkcnhaaGreatDoor.seriesRide
theorem q1 : (Rows.seriesRideUptoRow.inPlace == Tryz.pinned.checked.prog.inPlace 3) = true := by kernel_rfl
theorem q2 : (Rows.seriesRideUptoRow.unfollowed == Tryz.pinned.checked.prog.unfollowed 3) = true := by kernel_rfl
theorem q3 : (Rows.seriesRideUptoRow.recurses == Tryz.pinned.checked.prog.recurses 3) = true := by kernel_rfl
theorem q4 : (Rows.seriesRideUptoRow.named == Tryz.pinned.checked.prog.varsNamed 3) = true := by kernel_rfl
theorem facts : joinedFacts Tryz.pinned.checked.prog 3 Tryz.f3 (Rows.OpenSpec.upto Rows.seriesRideSpec).bare Rows.seriesRideUptoRow = true := by
  unfold joinedFacts
  rw [q1, q2, q3, q4]
  kernel_rfl
theorem named : Tryz.pinned.checked.prog.funcNamed Rows.seriesRideUptoRow.func = some 3 := by kernel_rfl
end Go.Proofs.YtjkidhjkpkcnhaaGreatDoor.seriesRide
