/- Vm, part 33: functions that write a row, that use one up and make another, or that make one. Own work. -/
import Derived.Test.YtbjpkdbneopgkaaGreatDoorVmD
import Derived.Sort.Grow
import Derived.Test.YtbjpkdbneopgkaaGreatDoorVmA
import Derived.Test.YtbjpkdbneopgkaaGreatDoorVmC
set_option linter.unusedVariables false
set_option linter.unusedSimpArgs false
set_option linter.unusedSectionVars false
namespace Go.Vm
variable [MonotC]
open Go.RowKit
section
variable {P : Program} {w w' : World} {A A' : Nat → Prop}
variable {E : Nat → Env}
end
end Go.Vm

/- Vm, part 34: sorts of the library, by the contracts of the kit. Own work. -/
set_option linter.unusedVariables false
set_option linter.unusedSimpArgs false
set_option linter.unusedSectionVars false
namespace Go.Vm
variable [MonotC]
open Go.RowKit Go.Sort
section
variable {P : Program} {w : World} {A : Nat → Prop}
end
end Go.Vm

/- Vm, part 35: slices.Compact, for whatever elements. Own work. -/
set_option linter.unusedVariables false
set_option linter.unusedSimpArgs false
namespace Go.Vm
section
variable {σ τ : Type}
end
section
variable {α : Type}
variable (d : α) (eq ne : α → α → Bool)
variable {d eq ne}
/-! ### what slices.DeleteFunc does -/
end
end Go.Vm

/- Vm, part 35: the cells of plain data. Own work. -/
set_option linter.unusedVariables false
set_option linter.unusedSimpArgs false
namespace Go.Vm
open Go.RowKit
section
variable {P : Program} {w w' : World} {A A' : Nat → Prop}
end
end Go.Vm

/- Vm, part 39: functions that leave the objects as they were. Own work. -/
set_option linter.unusedVariables false
set_option linter.unusedSimpArgs false
set_option linter.unusedSectionVars false
namespace Go.Vm
variable [MonotC]
open Go.RowKit
/-! ### Objects that lie in one way alone -/
section
variable {w w' : World} {A A' : Nat → Prop} {l : List OB} {μ : Nat → Value}
end
/-- of the first n none is told -/
def noTouch (n : Nat) : List Nat → Bool
  | [] => true
  | o :: l => Nat.ble n o && noTouch n l
theorem noTouch_spec {n : Nat} : ∀ {l : List Nat}, noTouch n l = true → ∀ i, i < n → i ∉ l
  | [], _, i, _, h => by cases h
  | o :: l, h, i, hi, hm => by
    simp only [noTouch, Bool.and_eq_true] at h
    rcases List.mem_cons.1 hm with rfl | hm
    · have := Nat.le_of_ble_eq_true h.1; omega
    · exact noTouch_spec h.2 i hi hm
section
variable {P : Program} {E : Env} {c : Cx} {S : St} {μ : Nat → Value} {a : Act} {w : World}
/-- what a function's call does that touches none of the objects -/
theorem calls_evq {ρ : Type} (hE : EnvTy P E) {f : FuncId} {fn : Func} {code : Code} {nt : Nat} {rs : List ResultVar} (hf : P.funcs[f]? = some fn) (hb : fn.body = some code) (hnt : fn.ntmps = nt) (hrs : fn.results.toList = rs) {evx : St → Kt ρ → Option ρ}
    {objs : List OB} (hev : ∀ (c : Cx), (∀ b, c.M0 b → objs ≠ []) → ∀ (S : St) (K : Kt ρ) (r : ρ) (μ : Nat → Value) (a : Act) (w : World) (n : Nat) (Q : Exit → Act → World → Prop), evx S K = some r → SR c S μ a w → n ≤ S.objs.length → Post c K r n (dsts code) S μ Q → code.wp P Q a w)
    {args : List PV} {K : PV → List OB → Option ρ} {r : ρ} (hk : evx { slots := args ++ List.replicate (nt - args.length) .undef, objs := objs, touched := [] } { n := fun S => cond (noTouch objs.length S.touched) (retK E S rs K) none, x := fun _ _ => none, r := fun S => cond (noTouch objs.length S.touched) (retK E S rs K) none } = some r)
    (w : World) (A : Nat → Prop) (μ : Nat → Value) (vals : List Value) (hO : Objs w A (obs objs) μ) (hargs : TRs w A (obs objs) μ args vals) :
    Calls P f vals.toArray w fun e w' => ∃ v res objs' μ', e = .returned v ∧ K res objs' = some r ∧ CallPost w w' A objs μ objs' μ' res v ∧ ∀ i, i < objs.length → obs objs' i = obs objs i := by
  · have hc : ∃ c : Cx, c.w0 = w ∧ c.A0 = A ∧ c.M0 = own (obs objs) μ := ⟨⟨w, A, own (obs objs) μ, hO.old, hO.mine⟩, rfl, rfl, rfl⟩
    obtain ⟨c, hw0, hA0, hM0⟩ := hc
    refine calls_of_wp hf hb ?_
    generalize hS : ({ slots := args ++ List.replicate (nt - args.length) .undef, objs := objs, touched := [] } : St) = S
    have hob : S.ob = obs objs := by subst hS; rfl
    have hSo : S.objs = objs := by subst hS; rfl
    have hav : ∀ b, av c S.ob μ b → A b := fun b hb => by
      rcases hb with hb | hb
      · rw [hA0] at hb; exact hb
      · rw [hob] at hb; exact hO.mine b hb
    have hsz := hargs.len
    have hsr : SR c S μ { tmps := vals.toArray ++ Array.replicate (fn.ntmps - vals.toArray.size) undef, defers := [] } w := by
      refine ⟨rfl, ⟨?_, fun t v ht => ?_⟩, ?_, by rw [hw0]; exact Keep.refl _ w, fun b hb => .inl (by rw [hM0, ← hob]; exact hb)⟩
      · subst hS; simp [hnt, hsz]
      · subst hS
        simp only at ht
        rw [List.getElem?_append] at ht
        split at ht
        · rename_i hlt
          obtain ⟨x, hx, hv⟩ := hargs.each t v ht
          have : (vals.toArray ++ Array.replicate (fn.ntmps - vals.toArray.size) undef).getD t undef = x := by
            rw [Array.getD_eq_getD_getElem?, Array.getElem?_append_left (by simp; omega)]
            simp [hx]
          show VR w _ _ _ v ((vals.toArray ++ Array.replicate (fn.ntmps - vals.toArray.size) undef).getD t undef)
          rw [this]
          exact VR.later (Keep.refl None w) (fun b _ hb => hav b hb) (fun _ h => h.elim) (fun o _ => by rw [hob]; exact Later.refl _ _ o) hv
        · rename_i hge
          rw [List.getElem?_replicate] at ht
          split at ht
          · simp only [Option.some.injEq] at ht
            subst ht
            have : (vals.toArray ++ Array.replicate (fn.ntmps - vals.toArray.size) undef).getD t undef = undef := by
              rw [Array.getD_eq_getD_getElem?, Array.getElem?_append_right (by simp; omega), Array.getElem?_replicate]
              split <;> rfl
            show VR w _ _ _ _ ((vals.toArray ++ Array.replicate (fn.ntmps - vals.toArray.size) undef).getD t undef)
            rw [this]
            exact .mk_undef
          · cases ht
      · rw [hob]
        exact ⟨fun o => (hO.each o).later (Keep.refl None w) (fun b _ hb => hav b (by rw [hob]; exact hb)) (fun _ h => h.elim) (.inl rfl) (fun _ => rfl) (fun b h1 h2 => ⟨fun h => h.elim, hO.old b (hO.mine b ⟨o, h1, h2⟩)⟩) (fun x _ => Later.refl _ _ x), hO.apart, fun b hb => .inr hb, fun b hb => hO.old b (hav b (by rw [hob]; exact hb)), fun p hp => ⟨(hO.lay p hp).1, fun a => (hO.lay p hp).2 (hav _ (by rw [hob]; exact a))⟩⟩
    rw [hS] at hk
    have hfin : ∀ S' μ' a' w', cond (noTouch objs.length S'.touched) (retK E S' rs K) none = some r → SR c S' μ' a' w' → Ag objs.length (dsts code) S μ S' μ' → a'.defers = [] ∧ ∃ v, (results fn a'.tmps).run P w' = .ok v w' ∧
        ∃ v' res objs' μ', Ending.returned v = .returned v' ∧ K res objs' = some r ∧ CallPost w w' A objs μ objs' μ' res v' ∧ ∀ i, i < objs.length → obs objs' i = obs objs i := by
      intro S' μ' a' w' h1 h2 h3
      obtain ⟨hnt, h1⟩ := cond_some h1
      have hsame : ∀ i, i < objs.length → obs S'.objs i = obs objs i := fun i hi => by
        rcases h3.ob i hi with h | h
        · rw [← hob]; exact h
        · exact absurd h (noTouch_spec hnt i hi)
      refine ⟨h2.defers, ?_⟩
      unfold retK at h1
      have hpost : ∀ (res : PV) (v : Value), VR w' (av c S'.ob μ') S'.ob μ' res v → CallPost w w' A objs μ S'.objs μ' res v := fun res v hv => by
        refine ⟨h3.olen, ?_, ?_, ?_, fun b hb => ?_, fun i hi => ?_⟩
        · have := h2.keep; rw [hM0, hw0] at this; exact this
        · have := h2.objs; unfold av at this; rw [hA0] at this; exact this
        · unfold av at hv; rw [hA0] at hv; exact hv
        · have := h2.mine b hb; rw [hM0, hw0] at this; exact this
        · have := h3.later i hi; rw [hob] at this; exact this
      have hres : ∀ vs, retL E S' rs = some vs → ∃ xs : List Value, (fn.results.mapM (retV a'.tmps)).run P w' = .ok xs.toArray w' ∧ TRs w' (av c S'.ob μ') S'.ob μ' vs xs := fun vs hvs => by
        obtain ⟨xs, g1, g2⟩ := retL_sound hE h2 rs vs hvs
        refine ⟨xs, ?_, g2⟩
        rw [Array.mapM_eq_mapM_toList, hrs, Sem.run_map, g1]
        rfl
      rw [results_eq]
      split at h1
      · rename_i v hv
        obtain ⟨xs, g1, g2⟩ := hres _ hv
        simp only [TRs] at g2
        obtain ⟨x, rest, rfl, g3, rfl⟩ := g2
        exact ⟨x, by rw [Sem.run_bind, g1]; rfl, x, v, S'.objs, μ', rfl, h1, hpost v x g3, hsame⟩
      · rename_i vs hne hv
        obtain ⟨xs, g1, g2⟩ := hres _ hv
        have hl := g2.len
        have h1x : xs.length ≠ 1 := fun e => by
          rw [e] at hl
          match vs, hl with
          | [v], _ => exact hne v rfl
        refine ⟨.tuple xs.toArray, by rw [Sem.run_bind, g1]; simp [Result.andThen, h1x], .tuple xs.toArray, .tup vs, S'.objs, μ', rfl, h1, hpost _ _ (.of_one ?_ rfl rfl), hsame⟩
        simp only [CR]
        exact ⟨_, rfl, by simpa using g2⟩
      · cases h1
    exact hev c (fun b hb e => by
        rw [hM0] at hb
        obtain ⟨o, h1, _⟩ := hb
        have := obs_len h1
        rw [e] at this
        exact absurd this (Nat.not_lt_zero _)) S _ r μ _ w objs.length _ hk hsr (by rw [hSo]; exact Nat.le_refl _)
      ⟨fun S' μ' a' w' h1 h2 h3 => hfin S' μ' a' w' h1 h2 h3, fun j S' μ' a' w' h1 => (by cases h1), fun S' μ' a' w' h1 h2 h3 => hfin S' μ' a' w' h1 h2 h3⟩
end
/-! ### A function that leaves the objects as they were -/
/-- .. as the evaluator sees it -/
noncomputable def evFunR0 {ρ : Type} (E : Env) (H : Hints) (k : Nat) (code : Code) (nt : Nat) (rs : List ResultVar) (args : List PV) (objs : List OB) (K : PV → List OB → Option ρ) : Option ρ :=
  ev { E with give := objs.isEmpty } H k code 0 { slots := args ++ List.replicate (nt - args.length) .undef, objs := objs, touched := [] }
    { n := fun S => cond (noTouch objs.length S.touched) (retK E S rs fun v l => K v (objs ++ l.drop objs.length)) none, x := fun _ _ => none, r := fun S => cond (noTouch objs.length S.touched) (retK E S rs fun v l => K v (objs ++ l.drop objs.length)) none }
theorem evFunR0_nat {ρ τ : Type} {E : Env} {H : Hints} {k : Nat} {code : Code} {nt : Nat} {rs : List ResultVar} {args : List PV} {objs : List OB} {K : PV → List OB → Option ρ} {f : ρ → Option τ} :
    (evFunR0 E H k code nt rs args objs K).bind f = evFunR0 E H k code nt rs args objs (fun v l => (K v l).bind f) := by
  unfold evFunR0
  rw [ev_nat]
  congr 1
  refine Kt.ext (fun S => ?_) (fun _ _ => rfl) (fun S => ?_)
  · simp only [Kt.bind]
    rw [cond_bind, retK_nat]; rfl
  · simp only [Kt.bind]
    rw [cond_bind, retK_nat]; rfl
noncomputable def FSem.evr (E : Env) (H : Hints) (k : Nat) (code : Code) (nt : Nat) (rs : List ResultVar) : FSem where
  modes := []
  quiet := false
  run := fun args objs K => evFunR0 E H k code nt rs args objs K
  param := fun args objs K => by
    have := evFunR0_nat (E := E) (H := H) (k := k) (code := code) (nt := nt) (rs := rs) (args := args) (objs := objs) (K := fun v l => some (v, l)) (f := fun p => K p.1 p.2)
    simp only [Option.bind_some] at this
    rw [← this]
    cases evFunR0 E H k code nt rs args objs (fun v l => some (v, l)) <;> rfl
  ro := true
  roOK := fun _ args objs p hp => by
    have hf : ∃ f : PV × List OB → Option (PV × List OB), (∀ v l, f (v, objs ++ l) = some (v, objs ++ l)) ∧ ∀ q q', f q = some q' → ∃ new, q'.2 = objs ++ new := by
      classical
      refine ⟨fun q => if ∃ new, q.2 = objs ++ new then some q else none, fun v l => if_pos ⟨l, rfl⟩, fun q q' h => ?_⟩
      have h : (if ∃ new, q.2 = objs ++ new then some q else none) = some q' := h
      by_cases hq : ∃ new, q.2 = objs ++ new
      · rw [if_pos hq] at h; cases h; exact hq
      · rw [if_neg hq] at h; cases h
    obtain ⟨f, hf1, hf2⟩ := hf
    have h := evFunR0_nat (E := E) (H := H) (k := k) (code := code) (nt := nt) (rs := rs) (args := args) (objs := objs) (K := fun v l => some (v, l)) (f := f)
    have e : evFunR0 E H k code nt rs args objs (fun v l => (some (v, l) : Option (PV × List OB)).bind f) = evFunR0 E H k code nt rs args objs (fun v l => some (v, l)) := by
      unfold evFunR0
      simp only [Option.bind_some, hf1]
    rw [e, hp, Option.bind_some] at h
    exact hf2 p p h
/-- a function that its callers see as the evaluator does, and that leaves the objects as they were -/
theorem ev_inlineR {P : Program} {E : Env} (hE : EnvOK P E) (hm : P.follows .mixedOrders = true) {H : Hints} {k : Nat} {f : FuncId} {fn : Func} {code : Code} {nt : Nat} {rs : List ResultVar} (hf : P.funcs[f]? = some fn) (hname : (fn.name == "runtime.NumGoroutine") = false) (hb : fn.body = some code) (hnt : fn.ntmps = nt) (hrs : fn.results.toList = rs) : SoundF P f (FSem.evr E H k code nt rs) := by
  intro ρ args objs K r h
  refine ⟨enters_of hf hname hb, fun w A μ vals hO hargs => ?_⟩
  refine (calls_evq hE.1 hf hb hnt hrs (evx := fun S K => ev { E with give := objs.isEmpty } H k code 0 S K) (fun c hc S K r μ a w n Q h hs hn hp => ev_sound (hE.giving hc) hm code 0 S K r μ a w n Q h hs hn hp) h w A μ vals hO hargs).mono ?_
  rintro e w' ⟨v, res, objs', μ', rfl, hK, hpost, hsame⟩
  have ho : objs ++ objs'.drop objs.length = objs' := by
    have hl := hpost.olen
    apply List.ext_getElem?
    intro i
    by_cases hi : i < objs.length
    · rw [List.getElem?_append_left hi]
      have h2 := hsame i hi
      simp only [obs, List.getD, List.getElem?_eq_getElem hi, List.getElem?_eq_getElem (show i < objs'.length by omega), Option.getD_some] at h2
      rw [List.getElem?_eq_getElem hi, List.getElem?_eq_getElem (show i < objs'.length by omega), h2]
    · rw [List.getElem?_append_right (by omega), List.getElem?_drop]
      congr 1
      omega
  rw [ho] at hK
  exact ⟨v, res, objs', μ', rfl, hK, hpost⟩
end Go.Vm
