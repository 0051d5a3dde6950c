/- Vm, part 30: slices.Clone. Own work. -/
import Derived.Test.YtfiembgemhonlaaVmLeaf
set_option linter.unusedVariables false
set_option linter.unusedSimpArgs false
namespace Go.Vm
open Go.RowKit
variable {P : Program}
/-- two halves of a function -/
theorem pfn_or {f : FuncId} {T Rs : Tys} {g g1 g2 : T.den → Option Rs.den} (h1 : SoundF P f (FSem.pfn T Rs g1)) (h2 : SoundF P f (FSem.pfn T Rs g2)) (h : ∀ x y, g x = some y → g1 x = some y ∨ g2 x = some y) : SoundF P f (FSem.pfn T Rs g) := by
  intro ρ args objs K r hr
  cases objs with
  | cons b l => simp only [FSem.pfn, reduceCtorEq] at hr
  | nil =>
    simp only [FSem.pfn] at hr
    split at hr
    · rename_i x hx
      obtain ⟨y, hy, hK⟩ := Option.bind_eq_some_iff.1 hr
      rcases h x y hy with h | h
      · exact h1 args [] K r (by simp only [FSem.pfn, hx, h, Option.bind_some]; exact hK)
      · exact h2 args [] K r (by simp only [FSem.pfn, hx, h, Option.bind_some]; exact hK)
    · cases hr
/-- slices.Clone: what is there, and the nil slice or an empty one -/
theorem clone_sound {f : FuncId} {T : Ty} {g1 : (Tys.cons (.slice T) .nil).den → Option (Tys.cons (.slice T) .nil).den} (h1 : SoundF P f (FSem.pfn (.cons (.slice T) .nil) (.cons (.slice T) .nil) g1)) (hen : Enters P f)
    (hg1 : ∀ xs : List T.den, xs ≠ [] → xs.length ≤ 4294967296 → g1 (xs, ()) = some (xs, ()))
    (h0 : ∀ (a : Option Addr) (c : Nat) (w : World), Calls P f #[.slice a 0 c] w fun e w' => ∃ a' c', e = .returned (.slice a' 0 c') ∧ c' ≤ 9223372036854775807 ∧ Keep None w w') :
    SoundF P f (FSem.pfn (.cons (.slice T) .nil) (.cons (.slice T) .nil) fun x => if List.length x.1 ≤ 4294967296 then some (x.1, ()) else none) := by
  have h2 : SoundF P f (FSem.pfn (.cons (.slice T) .nil) (.cons (.slice T) .nil) fun x => match (show List T.den from x.1) with | [] => some (([] : List T.den), ()) | _ :: _ => none) := by
    refine leaf_sound hen (fun x y hwf hy w A μ vals hv => ?_)
    obtain ⟨xs, ⟨⟩⟩ := x
    cases xs with
    | nil =>
      cases hy
      simp only [explodes, explode, TRs] at hv
      obtain ⟨v, rest, rfl, hv, rfl⟩ := hv
      have hd := VR.sl (ob := obs []) (μ := μ) hv
      simp only [DR] at hd
      obtain ⟨a, c, e, _, _⟩ := hd
      simp only [List.cons.injEq, and_true] at e
      subst e
      refine (h0 a c w).mono ?_
      rintro e w' ⟨a', c', rfl, hc', hk⟩
      refine ⟨_, rfl, hk, ?_⟩
      refine VR.mk_sl (T := T) (xs := ([] : List T.den)) ?_
      simp only [DR]
      exact ⟨a', c', rfl, ⟨Nat.zero_le _, hc'⟩, .inl rfl⟩
    | cons x xs => cases hy
  have h3 : ∀ (x : (Tys.cons (.slice T) .nil).den) (y : (Tys.cons (.slice T) .nil).den), (if List.length x.1 ≤ 4294967296 then some (x.1, ()) else none) = some y → g1 x = some y ∨ (match (show List T.den from x.1) with | [] => some (([] : List T.den), ()) | _ :: _ => none) = some y := by
    rintro ⟨xs, ⟨⟩⟩ y hy
    split at hy
    · rename_i hl
      cases hy
      cases xs with
      | nil => exact .inr rfl
      | cons z xs => exact .inl (hg1 _ (by simp) hl)
    · cases hy
  intro ρ args objs K r hr
  exact pfn_or h1 h2 h3 args objs K r hr
end Go.Vm
