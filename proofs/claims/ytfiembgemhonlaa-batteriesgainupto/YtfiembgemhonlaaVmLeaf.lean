/- Vm, part 28: functions whose contract is known otherwise. Own work. -/
import Derived.Test.YtfiembgemhonlaaVmRow
set_option linter.unusedVariables false
set_option linter.unusedSimpArgs false
namespace Go.Vm
open Go.RowKit
section
variable {P : Program}
/-- A FUNCTION WITH A CONTRACT OF ITS OWN. -/
theorem leaf_sound {f : FuncId} {T Rs : Tys} {g : T.den → Option Rs.den} (hen : Enters P f)
    (h : ∀ (x : T.den) (y : Rs.den), WFs T x → g x = some y → ∀ (w : World) (A : Nat → Prop) (μ : Nat → Value) (vals : List Value), TRs w A (obs []) μ (explodes T x) vals →
      Calls P f vals.toArray w fun e w' => ∃ v, e = .returned v ∧ Keep None w w' ∧ VR w' A (obs []) μ (resPV Rs y) v) : SoundF P f (FSem.pfn T Rs g) := by
  intro ρ args objs K r hr
  cases objs with
  | cons b l => simp only [FSem.pfn, reduceCtorEq] at hr
  | nil =>
    simp only [FSem.pfn] at hr
    split at hr
    · rename_i x hx
      obtain ⟨y, hy, hK⟩ := Option.bind_eq_some_iff.1 hr
      refine ⟨hen, fun w A μ vals hO hargs => ?_⟩
      have hd : ∀ i, obs [] i = .dead := fun i => rfl
      have hold : ∀ b, own (obs []) μ b → False := fun b hb => by obtain ⟨i, h, _⟩ := hb; rw [hd] at h; cases h
      refine (h x y (implodes_wf T args x vals hx hargs) hy w A μ vals (implodes_TRs T args x vals hx hargs)).mono ?_
      rintro e w' ⟨v, rfl, hk, hv⟩
      refine ⟨v, _, [], μ, rfl, hK, ⟨Nat.le_refl _, hk.mono (fun _ _ h => h.elim), ⟨fun o => by unfold OR; rw [hd]; trivial, fun o _ _ h => (by rw [hd] at h; cases h), fun b hb => (hold b hb).elim, fun b hb => ?_⟩, ?_, fun b hb => (hold b hb).elim, fun i hi => by simp at hi⟩⟩
      · rcases hb with hb | hb
        · exact Nat.lt_of_lt_of_le (hO.old b hb) hk.size
        · exact (hold b hb).elim
      · exact VR.later (Keep.refl None w') (fun b _ hb => hb.elim id (fun h => (hold b h).elim)) (fun _ h => h.elim) (fun o _ => Later.refl _ _ o) hv
    · cases hr
/-- .. from data to data -/
theorem pfn_fn {f : FuncId} {T Rs : Tys} {g : T.den → Rs.den} (h : SoundF P f (FSem.pfn T Rs fun x => some (g x))) : SoundF P f (FSem.fn T Rs g) := by
  intro ρ args objs K r hr
  exact h args objs K r hr
end
end Go.Vm
