/- Vm, part 22: functions. Own work. -/
import Derived.Test.YtfiembgemhonlaaVmSound
import Derived.Laws.Sem
set_option linter.unusedVariables false
set_option linter.unusedSimpArgs false
namespace Go.Vm
open Go.RowKit
section
variable {ρ : Type}
/-- the results of a function -/
def retL (E : Env) (S : St) : List ResultVar → Option (List PV)
  | [] => some []
  | .tmp t :: l => (retL E S l).bind fun vs => some (S.slots.getD t .undef :: vs)
  | .cell a t :: l => match E.td t with
    | some d => match S.slots.getD a .undef with
      | .ptr ob p => match S.ob ob with
        | .box _ v => cond (d.fits (getPath v p)) ((retL E S l).bind fun vs => some (getPath v p :: vs)) none
        | _ => none
      | _ => none
    | none => none
def retK (E : Env) (S : St) (rs : List ResultVar) (K : PV → List OB → Option ρ) : Option ρ :=
  match retL E S rs with
  | some [v] => K v S.objs
  | some vs => K (.tup vs) S.objs
  | none => none
/-- a function, from its arguments and the objects that they lead to -/
def evFun (E : Env) (H : Hints) (k : Nat) (code : Code) (nt : Nat) (rs : List ResultVar) (args : List PV) (objs : List OB) (K : PV → List OB → Option ρ) : Option ρ :=
  ev E H k code 0 { slots := args ++ List.replicate (nt - args.length) .undef, objs := objs, touched := [] }
    { n := fun S => retK E S rs K, x := fun _ _ => none, r := fun S => retK E S rs K }
/-- functions by number -/
def calls : List (Nat × FSem) → Nat → FSem
  | [], _ => .never
  | p :: l, f => cond (Nat.beq p.1 f) p.2 (calls l f)
theorem calls_sound {P : Program} : ∀ (l : List (Nat × FSem)), (∀ p ∈ l, SoundF P p.1 p.2) → ∀ f, SoundF P f (calls l f)
  | [], _, f => SoundF.never P f
  | p :: l, h, f => by
    simp only [calls]
    by_cases e : p.1 = f
    · subst e
      simp only [Nat.beq_refl, cond_true]
      exact h p (by simp)
    · have : Nat.beq p.1 f = false := by rw [← Bool.not_eq_true]; simpa using e
      rw [this]
      exact calls_sound l (fun q hq => h q (by simp [hq])) f
end
section
variable {P : Program} {E : Env} {c : Cx} {S : St} {μ : Nat → Value} {a : Act} {w : World}
def retV (tmps : Array Value) : ResultVar → Sem Value
  | .tmp t => pure (tmps.getD t undef)
  | .cell a t => do loadVar t (← asAddr (tmps.getD a undef))
theorem retL_sound (hE : EnvTy P E) (hsr : SR c S μ a w) : ∀ (rs : List ResultVar) (vs : List PV), retL E S rs = some vs → ∃ xs : List Value, (rs.mapM (retV a.tmps)).run P w = .ok xs w ∧ TRs w (av c S.ob μ) S.ob μ vs xs
  | [], vs, h => by
    simp only [retL, Option.some.injEq] at h
    subst h
    exact ⟨[], by simp, by simp only [TRs]⟩
  | .tmp t :: l, vs, h => by
    simp only [retL] at h
    obtain ⟨us, h1, h2⟩ := Option.bind_eq_some_iff.1 h
    cases h2
    obtain ⟨xs, h3, h4⟩ := retL_sound hE hsr l us h1
    refine ⟨a.tmps.getD t undef :: xs, ?_, ?_⟩
    · simp [List.mapM_cons, retV, h3, Result.andThen]
    · simp only [TRs]
      exact ⟨_, _, rfl, hsr.slots.opd (.tmp t), h4⟩
  | .cell x t :: l, vs, h => by
    simp only [retL] at h
    split at h
    · rename_i d hd
      have hd' := hE _ _ hd
      have hv := hsr.slots.opd (.tmp x)
      simp only [opd, Act.eval] at hv
      split at h
      · rename_i ob p hx
        rw [hx] at hv
        split at h
        · rename_i d0 v hob
          obtain ⟨hfit, h⟩ := cond_some h
          obtain ⟨us, h1, h2⟩ := Option.bind_eq_some_iff.1 h
          cases h2
          obtain ⟨xs, h3, h4⟩ := retL_sound hE hsr l us h1
          obtain ⟨b, off, d', hm, hoff, e⟩ := hv.ptr hob
          have hor := hsr.objs.each ob
          simp only [OR, hob] at hor
          obtain ⟨b', cs, tt, hm', hheap, hfits, hcr⟩ := hor
          rw [hm] at hm'
          simp only [Value.pointer.injEq, Option.some.injEq, Addr.mk.injEq] at hm'
          obtain ⟨rfl, _, _⟩ := hm'
          obtain ⟨g1, g2, g3, _⟩ := TD.path_sound _ _ _ _ _ _ hfits hcr hoff
          have hl := TD.fits_len _ _ _ hfits hcr
          have hlen := TD.fits_len _ _ _ hfit g1
          have hlie : LiesAt w b off ((cs.toList.drop off).take d'.cells) := fun j v hj => by
            rw [List.getElem?_take] at hj
            split at hj
            · rw [List.getElem?_drop] at hj
              simp only [World.cell?, hheap]
              simpa using hj
            · cases hj
          refine ⟨wrapV d.isAgg ((cs.toList.drop off).take d'.cells) :: xs, ?_, ?_⟩
          · have hload := run_loadVar' (P := P) (w := w) hd' hlie hlen
            simp only [List.mapM_cons, retV, Sem.run_bind, e, asAddr, Sem.run_pure, Result.andThen, hload, h3]
          · simp only [TRs]
            exact ⟨_, _, rfl, VR.of_cells g1 (TD.fits_agg hfit), h4⟩
        · cases h
      · cases h
    · cases h
theorem TRs.len {w : World} {A : Nat → Prop} {ob : Nat → OB} {μ : Nat → Value} : ∀ {l : List PV} {vs : List Value}, TRs w A ob μ l vs → vs.length = l.length
  | [], vs, h => by simp only [TRs] at h; subst h; rfl
  | v :: l, vs, h => by
    simp only [TRs] at h
    obtain ⟨x, r, rfl, _, h⟩ := h
    simp [TRs.len h]
theorem TRs.each {w : World} {A : Nat → Prop} {ob : Nat → OB} {μ : Nat → Value} : ∀ {l : List PV} {vs : List Value}, TRs w A ob μ l vs → ∀ (t : Nat) (v : PV), l[t]? = some v → ∃ x : Value, vs[t]? = some x ∧ VR w A ob μ v x
  | [], vs, h, t, v, hv => by simp at hv
  | u :: l, vs, h, 0, v, hv => by
    simp only [TRs] at h
    obtain ⟨x, r, rfl, h1, h⟩ := h
    simp only [List.getElem?_cons_zero, Option.some.injEq] at hv
    subst hv
    exact ⟨x, rfl, h1⟩
  | u :: l, vs, h, t + 1, v, hv => by
    simp only [TRs] at h
    obtain ⟨x, r, rfl, h1, h⟩ := h
    simp only [List.getElem?_cons_succ] at hv ⊢
    exact TRs.each h t v hv
theorem results_eq (fn : Func) (tmps : Array Value) : results fn tmps = (do let vs ← fn.results.mapM (retV tmps); pure (if h : vs.size = 1 then vs[0] else .tuple vs)) := rfl
/-- A FUNCTION IS WHAT THE EVALUATOR MAKES OF IT. -/
theorem fun_sound (hE : EnvOK P E) (hm : P.follows .mixedOrders = true) {H : Hints} {f : FuncId} {fn : Func} {code : Code} {nt : Nat} {rs : List ResultVar} (hf : P.funcs[f]? = some fn) (hname : (fn.name == "runtime.NumGoroutine") = false) (hb : fn.body = some code) (hnt : fn.ntmps = nt) (hrs : fn.results.toList = rs) {sem : FSem}
    (hrun : ∀ {ρ : Type} (args : List PV) (objs : List OB) (K : PV → List OB → Option ρ) (r : ρ), sem.run args objs K = some r → ∃ k, evFun E H k code nt rs args objs K = some r) : SoundF P f sem := by
  intro ρ args objs K r h
  obtain ⟨k, hk⟩ := hrun args objs K r h
  refine ⟨fun args w => ?_, fun w A μ vals hO hargs => ?_⟩
  · have h1 : (callFunc f args).run P w = .ok (.enter f args) w := by
      unfold callFunc
      have hn' : ¬ fn.name = "runtime.NumGoroutine" := by simpa using hname
      simp [hf, hn', hb]
    exact h1
  · have hc : ∃ c : Cx, c.w0 = w ∧ c.A0 = A ∧ c.M0 = own (obs objs) μ := ⟨⟨w, A, own (obs objs) μ, hO.old, hO.mine⟩, rfl, rfl, rfl⟩
    obtain ⟨c, hw0, hA0, hM0⟩ := hc
    refine calls_of_wp hf hb ?_
    generalize hS : ({ slots := args ++ List.replicate (nt - args.length) .undef, objs := objs, touched := [] } : St) = S
    have hob : S.ob = obs objs := by subst hS; rfl
    have hSo : S.objs = objs := by subst hS; rfl
    have hav : ∀ b, av c S.ob μ b → A b := fun b hb => by
      rcases hb with hb | hb
      · rw [hA0] at hb; exact hb
      · rw [hob] at hb; exact hO.mine b hb
    have hsz := hargs.len
    have hsr : SR c S μ { tmps := vals.toArray ++ Array.replicate (fn.ntmps - vals.toArray.size) undef, defers := [] } w := by
      refine ⟨rfl, ⟨?_, fun t v ht => ?_⟩, ?_, by rw [hw0]; exact Keep.refl _ w, fun b hb => .inl (by rw [hM0, ← hob]; exact hb)⟩
      · subst hS; simp [hnt, hsz]
      · subst hS
        simp only at ht
        rw [List.getElem?_append] at ht
        split at ht
        · rename_i hlt
          obtain ⟨x, hx, hv⟩ := hargs.each t v ht
          have : (vals.toArray ++ Array.replicate (fn.ntmps - vals.toArray.size) undef).getD t undef = x := by
            rw [Array.getD_eq_getD_getElem?, Array.getElem?_append_left (by simp; omega)]
            simp [hx]
          show VR w _ _ _ v ((vals.toArray ++ Array.replicate (fn.ntmps - vals.toArray.size) undef).getD t undef)
          rw [this]
          exact VR.later (Keep.refl None w) (fun b _ hb => hav b hb) (fun _ h => h.elim) (fun o _ => by rw [hob]; exact Later.refl _ _ o) hv
        · rename_i hge
          rw [List.getElem?_replicate] at ht
          split at ht
          · simp only [Option.some.injEq] at ht
            subst ht
            have : (vals.toArray ++ Array.replicate (fn.ntmps - vals.toArray.size) undef).getD t undef = undef := by
              rw [Array.getD_eq_getD_getElem?, Array.getElem?_append_right (by simp; omega), Array.getElem?_replicate]
              split <;> rfl
            show VR w _ _ _ _ ((vals.toArray ++ Array.replicate (fn.ntmps - vals.toArray.size) undef).getD t undef)
            rw [this]
            exact .mk_undef
          · cases ht
      · rw [hob]
        exact ⟨fun o => (hO.each o).later (Keep.refl None w) (fun b _ hb => hav b (by rw [hob]; exact hb)) (fun _ h => h.elim) (.inl rfl) (fun _ => rfl) (fun b h1 h2 => ⟨fun h => h.elim, hO.old b (hO.mine b ⟨o, h1, h2⟩)⟩) (fun x _ => Later.refl _ _ x), hO.apart, fun b hb => .inr hb, fun b hb => hO.old b (hav b (by rw [hob]; exact hb))⟩
    unfold evFun at hk
    rw [hS] at hk
    have hfin : ∀ S' μ' a' w', retK E S' rs K = some r → SR c S' μ' a' w' → Ag objs.length (dsts code) S μ S' μ' → a'.defers = [] ∧ ∃ v, (results fn a'.tmps).run P w' = .ok v w' ∧
        ∃ v' res objs' μ', Ending.returned v = .returned v' ∧ K res objs' = some r ∧ CallPost w w' A objs μ objs' μ' res v' := by
      intro S' μ' a' w' h1 h2 h3
      refine ⟨h2.defers, ?_⟩
      unfold retK at h1
      have hpost : ∀ (res : PV) (v : Value), VR w' (av c S'.ob μ') S'.ob μ' res v → CallPost w w' A objs μ S'.objs μ' res v := fun res v hv => by
        refine ⟨h3.olen, ?_, ?_, ?_, fun b hb => ?_, fun i hi => ?_⟩
        · have := h2.keep; rw [hM0, hw0] at this; exact this
        · have := h2.objs; unfold av at this; rw [hA0] at this; exact this
        · unfold av at hv; rw [hA0] at hv; exact hv
        · have := h2.mine b hb; rw [hM0, hw0] at this; exact this
        · have := h3.later i hi; rw [hob] at this; exact this
      have hres : ∀ vs, retL E S' rs = some vs → ∃ xs : List Value, (fn.results.mapM (retV a'.tmps)).run P w' = .ok xs.toArray w' ∧ TRs w' (av c S'.ob μ') S'.ob μ' vs xs := fun vs hvs => by
        obtain ⟨xs, g1, g2⟩ := retL_sound hE.1 h2 rs vs hvs
        refine ⟨xs, ?_, g2⟩
        rw [Array.mapM_eq_mapM_toList, hrs, Sem.run_map, g1]
        rfl
      rw [results_eq]
      split at h1
      · rename_i v hv
        obtain ⟨xs, g1, g2⟩ := hres _ hv
        simp only [TRs] at g2
        obtain ⟨x, rest, rfl, g3, rfl⟩ := g2
        exact ⟨x, by rw [Sem.run_bind, g1]; rfl, x, v, S'.objs, μ', rfl, h1, hpost v x g3⟩
      · rename_i vs hne hv
        obtain ⟨xs, g1, g2⟩ := hres _ hv
        have hl := g2.len
        have h1x : xs.length ≠ 1 := fun e => by
          rw [e] at hl
          match vs, hl with
          | [v], _ => exact hne v rfl
        refine ⟨.tuple xs.toArray, by rw [Sem.run_bind, g1]; simp [Result.andThen, h1x], .tuple xs.toArray, .tup vs, S'.objs, μ', rfl, h1, hpost _ _ (.of_one ?_ rfl rfl)⟩
        simp only [CR]
        exact ⟨_, rfl, by simpa using g2⟩
      · cases h1
    exact ev_sound hE hm code 0 S _ r μ _ w objs.length _ hk hsr (by rw [hSo]; exact Nat.le_refl _)
      ⟨fun S' μ' a' w' h1 h2 h3 => hfin S' μ' a' w' h1 h2 h3, fun j S' μ' a' w' h1 => (by cases h1), fun S' μ' a' w' h1 h2 h3 => hfin S' μ' a' w' h1 h2 h3⟩
end
end Go.Vm
