/- Needs by halving; the law. Own work. -/
import Derived.Test.YtfiembgemhonlaaBSpecD
import Derived.Test.YtfiembgemhonlaaBShift
set_option linter.unusedVariables false
set_option linter.unusedSimpArgs false
namespace Go.Vm
open Go.RowKit Go.Vm.Gain
def needAt (v : Veh) (p : Plc) (lvl want : Int) : Int := need (lvl * 3600000000) (slowOf v) (1000 * powerOf v p) (500 * powerOf v p) (want * 3600000000)
open Classical in
noncomputable def s23 (v : Veh) (p : Plc) (lvl want : Int) : Option (Int × Unit) := if Fit v p lvl ∧ 0 ≤ want ∧ want ≤ v.2.1 then some (needAt v p lvl want, ()) else none
/-! ### one vehicle, one place -/
def s116 (v : Veh) (p : Plc) : Int := nz [s12 [v], s15 [p]]
theorem nz2 {a b : Int} (h : nz [a, b] = 0) : a = 0 ∧ b = 0 := by
  simp only [nz] at h
  split at h
  · rename_i ha
    split at h
    · rename_i hb; exact ⟨ha, hb⟩
    · exact ⟨ha, h⟩
  · rename_i ha; exact absurd h ha
theorem one_fault {α : Type} {kf : α → ByteArray} {φ : α → Int} {x : α} (h : chk kf φ none [x] = 0) : φ x = 0 := by
  simp only [chk] at h
  cases hk : key (kf x)
  · rw [hk] at h; cases h
  · rw [hk] at h
    simp only [Bool.not_true, cond_false] at h
    by_cases hx : φ x = 0
    · exact hx
    · have : (φ x != 0) = true := by simpa using hx
      rw [this] at h
      exact h
theorem fit_of {v : Veh} {p : Plc} {lvl : Int} (h : s116 v p = 0) (hl : s114 lvl 0 v.2.1 = false) : Fit v p lvl := by
  obtain ⟨h1, h2⟩ := nz2 h
  have h3 : vehBad v = 0 := by
    unfold s12 vehsFault at h1
    simp only [List.length_singleton, show ¬ (1 > 200) by omega, if_false] at h1
    exact one_fault h1
  have h4 : plcBad p = 0 := by
    unfold s15 plcsFault at h2
    simp only [List.length_singleton, show ¬ (1 > 50) by omega, if_false] at h2
    exact one_fault h2
  unfold vehBad at h3
  unfold plcBad at h4
  have hb : ∀ (b : Bool) (x : Int), (bif b then 1 else x) = 0 → b = false ∧ x = 0 := fun b x h => by cases b <;> simp_all
  obtain ⟨v1, h3⟩ := hb _ _ h3
  obtain ⟨v2, h3⟩ := hb _ _ h3
  obtain ⟨v3, h3⟩ := hb _ _ h3
  obtain ⟨v4, h3⟩ := hb _ _ h3
  obtain ⟨p1, h4⟩ := hb _ _ h4
  obtain ⟨p2, h4⟩ := hb _ _ h4
  have ho : ∀ a b c : Int, s114 a b c = false → b ≤ a ∧ a ≤ c := fun a b c h => by
    unfold s114 at h
    simp only [Bool.or_eq_false_iff, decide_eq_false_iff_not] at h
    omega
  obtain ⟨a1, a2⟩ := ho _ _ _ v1
  obtain ⟨a3, a4⟩ := ho _ _ _ v3
  obtain ⟨a5, a6⟩ := ho _ _ _ v4
  obtain ⟨a7, a8⟩ := ho _ _ _ p2
  obtain ⟨a9, a10⟩ := ho _ _ _ hl
  refine ⟨a1, a2, a5, a6, ?_, ?_, a9, a10⟩ <;> unfold powerOf <;> split <;> omega
def s18 (v : Veh) (p : Plc) (lvl long : Int) : Int × Int × Unit :=
  if s116 v p ≠ 0 then (0, s116 v p, ()) else bif s114 lvl 0 v.2.1 then (0, 1, ()) else bif s114 long 0 2592000000 then (0, 1, ()) else (gainAt v p lvl long, 0, ())
def s19 (v : Veh) (p : Plc) (lvl want : Int) : Int × Int × Unit :=
  if s116 v p ≠ 0 then (0, s116 v p, ()) else bif s114 lvl 0 v.2.1 then (0, 1, ()) else bif s114 want 0 v.2.1 then (0, 1, ()) else (needAt v p lvl want, 0, ())
theorem out_false {a b c : Int} (h : s114 a b c = false) : b ≤ a ∧ a ≤ c := by
  unfold s114 at h
  simp only [Bool.or_eq_false_iff, decide_eq_false_iff_not] at h
  omega
/-! ### drivers, at one input -/
def s24 : Option (Bool × Unit) := f24 s45 20
theorem s24_true : s24 = some (true, ()) := by kernel_rfl
end Go.Vm
