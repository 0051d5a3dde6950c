/- Vm, part 25: functions from data to data. Own work. -/
import Derived.Test.YtfiembgemhonlaaVmNat
set_option linter.unusedVariables false
set_option linter.unusedSimpArgs false
namespace Go.Vm
open Go.RowKit
def asRow? (l : List OB) (T : Ty) (o : Nat) : Option (List T.den) :=
  match l.getD o .dead with
  | .row U xs => castL U T xs
  | _ => none
def asSlF? (l : List OB) (T : Ty) : PV → Option (List T.den)
  | .row o => asRow? l T o
  | .sl U xs => castL U T xs
  | .nil => some []
  | _ => none
mutual
/-- a value as data; its own rows are given up -/
def frz (l : List OB) : (T : Ty) → PV → Option T.den
  | .int k, v => asInt? k v
  | .bool, v => asBool? v
  | .str, v => asStr? v
  | .slice t, v => asSlF? l t v
  | .struct fs, v => match asAgg? v with
    | some vs => frzs l fs vs
    | none => none
def frzs (l : List OB) : (T : Tys) → List PV → Option T.den
  | .nil, vs => match vs with
    | [] => some ()
    | _ => none
  | .cons t ts, vs => match vs with
    | v :: vs => (frz l t v).bind fun x => (frzs l ts vs).bind fun y => some (x, y)
    | [] => none
end
theorem asSlF_some {l : List OB} {T : Ty} {v : PV} {xs : List T.den} (h : asSlF? l T v = some xs) : (∃ o, v = .row o ∧ l.getD o .dead = .row T xs) ∨ v = .sl T xs ∨ (v = .nil ∧ xs = []) := by
  unfold asSlF? at h
  split at h
  · rename_i o
    unfold asRow? at h
    split at h
    · rename_i U ys hob
      obtain ⟨e, h2⟩ := castL_some h
      subst e; subst h2
      exact .inl ⟨o, rfl, hob⟩
    · cases h
  · obtain ⟨e, h2⟩ := castL_some h
    subst e; subst h2
    exact .inr (.inl rfl)
  · simp only [Option.some.injEq] at h
    exact .inr (.inr ⟨rfl, h.symm⟩)
  · cases h
def decNil : PV → Option Unit
  | .tup l => match l with
    | [] => some ()
    | _ => none
  | _ => none
def decMany (l : List OB) (Ts : Tys) : PV → Option Ts.den
  | .tup vs => frzs l Ts vs
  | _ => none
/-- the results of a function as data -/
def dec (Rs : Tys) (v : PV) (l : List OB) : Option Rs.den :=
  match Rs with
  | .nil => decNil v
  | .cons t ts => match ts with
    | .nil => (frz l t v).bind fun x => some (x, ())
    | .cons t' ts' => decMany l (.cons t (.cons t' ts')) v
/-- results, from data -/
def resPV : (Rs : Tys) → Rs.den → PV
  | .nil, _ => .tup []
  | .cons t ts, y => match ts, y with
    | .nil, y => explode t y.1
    | .cons t' ts', y => .tup (explodes (.cons t (.cons t' ts')) y)
def modeOf : Ty → Mode
  | .slice t => .ro t
  | _ => .val
def modesOf : Tys → List Mode
  | .nil => []
  | .cons t ts => modeOf t :: modesOf ts
/-! ### Sizes -/
set_option linter.unusedVariables false
mutual
/-- all lengths and sizes are those of a machine -/
def WF : (T : Ty) → T.den → Prop
  | .int _, _ => True
  | .bool, _ => True
  | .str, s => ByteArray.size s ≤ 9223372036854775807
  | .slice t, xs => List.length xs ≤ 9223372036854775807 ∧ ∀ i x, nth (α := t.den) xs i = some x → WF t x
  | .struct fs, x => WFs fs x
def WFs : (T : Tys) → T.den → Prop
  | .nil, _ => True
  | .cons t ts, x => WF t x.1 ∧ WFs ts x.2
end
mutual
theorem DR.wf {w : World} {A : Nat → Prop} : ∀ (T : Ty) (x : T.den) (cs : List Value), DR w A T x cs → WF T x
  | .int _, _, _, _ => by simp only [WF]
  | .bool, _, _, _ => by simp only [WF]
  | .str, _, _, h => by simp only [DR] at h; simp only [WF]; exact h.2
  | .slice t, xs, cs, h => by
    simp only [DR] at h
    simp only [WF]
    obtain ⟨a, c, _, hc, h⟩ := h
    refine ⟨Nat.le_trans hc.1 hc.2, fun i x hi => ?_⟩
    rcases h with h | ⟨b, off, _, _, _, h⟩
    · subst h; simp [nth] at hi
    · obtain ⟨cs', h, _⟩ := h i x hi
      exact DR.wf t x cs' h
  | .struct fs, x, cs, h => by simp only [DR] at h; simp only [WF]; exact DRs.wf fs x cs h
theorem DRs.wf {w : World} {A : Nat → Prop} : ∀ (T : Tys) (x : T.den) (cs : List Value), DRs w A T x cs → WFs T x
  | .nil, _, _, _ => by simp only [WFs]
  | .cons t ts, x, cs, h => by
    simp only [DRs] at h
    simp only [WFs]
    obtain ⟨c1, c2, _, h1, h2⟩ := h
    exact ⟨DR.wf t x.1 c1 h1, DRs.wf ts x.2 c2 h2⟩
end
/-- a function from data to data -/
def FSem.fn (T Rs : Tys) (g : T.den → Rs.den) : FSem where
  modes := modesOf T
  quiet := true
  run := fun args objs K => match objs with
    | [] => match implodes T args with
      | some x => K (resPV Rs (g x)) []
      | none => none
    | _ :: _ => none
  param := fun args objs K => by
    cases objs with
    | nil => simp only; cases implodes T args <;> rfl
    | cons b l => rfl
/-- ..: where it has an answer -/
def FSem.pfn (T Rs : Tys) (g : T.den → Option Rs.den) : FSem where
  modes := modesOf T
  quiet := true
  run := fun args objs K => match objs with
    | [] => match implodes T args with
      | some x => (g x).bind fun y => K (resPV Rs y) []
      | none => none
    | _ :: _ => none
  param := fun args objs K => by
    cases objs with
    | nil =>
      simp only
      cases implodes T args with
      | none => rfl
      | some x => simp only; cases g x <;> rfl
    | cons b l => rfl
section
variable {w : World} {A A0 : Nat → Prop} {μ : Nat → Value} {l : List OB}
mutual
theorem frz_sound (hO : ∀ o, OR w A (obs l) μ o) (hA : ∀ b, A0 b → A b) (hn : ∀ b, own (obs l) μ b → ¬ A0 b ∧ b < w.heap.size) : ∀ (T : Ty) (v : PV) (y : T.den) (cs : List Value), frz l T v = some y → CR w A (obs l) μ v cs → DR w A0 T y cs
  | .int k, v, y, cs, h, hc => by
    simp only [frz] at h
    have := asInt?_some h
    subst this
    simp only [CR] at hc
    simpa only [DR] using hc
  | .bool, v, y, cs, h, hc => by
    simp only [frz] at h
    have := asBool?_some h
    subst this
    simp only [CR] at hc
    simpa only [DR] using hc
  | .str, v, y, cs, h, hc => by
    simp only [frz] at h
    have := asStr?_some h
    subst this
    simp only [CR] at hc
    simpa only [DR] using hc
  | .slice t, v, y, cs, h, hc => by
    simp only [frz] at h
    rcases asSlF_some h with ⟨o, rfl, hob⟩ | rfl | ⟨rfl, rfl⟩
    · have hob' : obs l o = .row t y := hob
      simp only [CR] at hc
      obtain ⟨v, rfl, _, hm⟩ := hc
      simp only [hob'] at hm
      have hor := hO o
      unfold OR at hor
      simp only [hob'] at hor
      rcases hor with ⟨h0, hm'⟩ | ⟨b, off, c0, cs, tt, hm', hheap, hlc, hlc2, _, hel⟩
      · have : y = [] := List.length_eq_zero_iff.1 h0
        subst this
        rw [hm'] at hm
        subst hm
        simp only [DR]
        exact ⟨none, 0, rfl, ⟨Nat.le_refl _, Nat.zero_le _⟩, .inl rfl⟩
      · obtain ⟨h3, h4⟩ := hn b ⟨o, by rw [hob']; rfl, by rw [hm']; rfl⟩
        rw [hm'] at hm
        subst hm
        simp only [DR]
        refine ⟨_, c0, rfl, ⟨hlc, hlc2⟩, .inr ⟨b, off, rfl, h3, h4, fun i y hi => ?_⟩⟩
        obtain ⟨cx, h5, h6⟩ := hel i y hi
        refine ⟨cx, DR.keep (Keep.refl None w) (fun b _ hb => hA b hb) (fun _ h => h.elim) _ _ _ h5, fun j v hj => ?_⟩
        simp only [World.cell?, hheap]
        simpa using h6 j v hj
    · simp only [CR] at hc
      exact DR.keep (Keep.refl None w) (fun b _ hb => hA b hb) (fun _ h => h.elim) _ _ _ hc
    · simp only [CR] at hc
      subst hc
      simp only [DR]
      exact ⟨none, 0, rfl, ⟨Nat.le_refl _, Nat.zero_le _⟩, .inl rfl⟩
  | .struct fs, v, y, cs, h, hc => by
    simp only [frz] at h
    split at h
    · rename_i vs hvs
      have := asAgg?_some hvs
      subst this
      simp only [CR] at hc
      simp only [DR]
      exact frzs_sound hO hA hn fs _ y cs h hc
    · cases h
theorem frzs_sound (hO : ∀ o, OR w A (obs l) μ o) (hA : ∀ b, A0 b → A b) (hn : ∀ b, own (obs l) μ b → ¬ A0 b ∧ b < w.heap.size) : ∀ (T : Tys) (vs : List PV) (y : T.den) (cs : List Value), frzs l T vs = some y → CRs w A (obs l) μ vs cs → DRs w A0 T y cs
  | .nil, vs, y, cs, h, hc => by
    simp only [frzs] at h
    split at h
    · simp only [CRs] at hc
      simpa only [DRs] using hc
    · cases h
  | .cons t ts, vs, y, cs, h, hc => by
    simp only [frzs] at h
    split at h
    · obtain ⟨x, h1, h⟩ := Option.bind_eq_some_iff.1 h
      obtain ⟨z, h2, h9⟩ := Option.bind_eq_some_iff.1 h
      cases h9
      simp only [CRs] at hc
      obtain ⟨c1, c2, e, h3, h4⟩ := hc
      simp only [DRs]
      exact ⟨c1, c2, e, frz_sound hO hA hn t _ x c1 h1 h3, frzs_sound hO hA hn ts _ z c2 h2 h4⟩
    · cases h
end
theorem explode_agg : ∀ (T : Ty) (x : T.den), (explode T x).isAgg = T.isAgg
  | .int _, _ => rfl | .bool, _ => rfl | .str, _ => rfl | .slice _, _ => rfl | .struct _, _ => rfl
theorem frz_agg {T : Ty} {v : PV} {y : T.den} (h : frz l T v = some y) : v.isAgg = T.isAgg ∧ v.isAny = false := by
  cases T with
  | int k => simp only [frz] at h; have := asInt?_some h; subst this; exact ⟨rfl, rfl⟩
  | bool => simp only [frz] at h; have := asBool?_some h; subst this; exact ⟨rfl, rfl⟩
  | str => simp only [frz] at h; have := asStr?_some h; subst this; exact ⟨rfl, rfl⟩
  | slice t => simp only [frz] at h; rcases asSlF_some h with ⟨o, e, _⟩ | e | ⟨e, _⟩ <;> subst e <;> exact ⟨rfl, rfl⟩
  | struct fs =>
    simp only [frz] at h
    split at h
    · rename_i hl; have := asAgg?_some hl; subst this; exact ⟨rfl, rfl⟩
    · cases h
theorem frz_VR (hO : ∀ o, OR w A (obs l) μ o) (hA : ∀ b, A0 b → A b) (hn : ∀ b, own (obs l) μ b → ¬ A0 b ∧ b < w.heap.size) {T : Ty} {v : PV} {y : T.den} {x : Value} (h : frz l T v = some y) (hv : VR w A (obs l) μ v x) (ob2 : Nat → OB) (μ2 : Nat → Value) : VR w A0 ob2 μ2 (explode T y) x := by
  obtain ⟨h1, h2⟩ := frz_agg h
  rcases hv with hv | ⟨hv, hv2⟩
  · rw [h2] at hv; cases hv
  · exact .inr ⟨explode_sound _ _ _ (frz_sound hO hA hn T v y _ h hv), by rw [hv2, h1, explode_agg]⟩
theorem frzs_TRs (hO : ∀ o, OR w A (obs l) μ o) (hA : ∀ b, A0 b → A b) (hn : ∀ b, own (obs l) μ b → ¬ A0 b ∧ b < w.heap.size) (ob2 : Nat → OB) (μ2 : Nat → Value) : ∀ (T : Tys) (vs : List PV) (y : T.den) (xs : List Value), frzs l T vs = some y → TRs w A (obs l) μ vs xs → TRs w A0 ob2 μ2 (explodes T y) xs
  | .nil, vs, y, xs, h, hv => by
    simp only [frzs] at h
    split at h
    · simp only [TRs] at hv
      simp only [explodes, TRs]
      exact hv
    · cases h
  | .cons t ts, vs, y, xs, h, hv => by
    simp only [frzs] at h
    split at h
    · obtain ⟨x, h1, h⟩ := Option.bind_eq_some_iff.1 h
      obtain ⟨z, h2, h9⟩ := Option.bind_eq_some_iff.1 h
      cases h9
      simp only [TRs] at hv
      obtain ⟨u, rest, rfl, h3, h4⟩ := hv
      simp only [explodes, TRs]
      exact ⟨u, rest, rfl, frz_VR hO hA hn h1 h3 ob2 μ2, frzs_TRs hO hA hn ob2 μ2 ts _ z rest h2 h4⟩
    · cases h
theorem implode_agg {T : Ty} {v : PV} {y : T.den} (h : implode T v = some y) : v.isAgg = T.isAgg ∧ v.isAny = false := by
  cases T with
  | int k => simp only [implode] at h; have := asInt?_some h; subst this; exact ⟨rfl, rfl⟩
  | bool => simp only [implode] at h; have := asBool?_some h; subst this; exact ⟨rfl, rfl⟩
  | str => simp only [implode] at h; have := asStr?_some h; subst this; exact ⟨rfl, rfl⟩
  | slice t => simp only [implode] at h; rcases asSl?_some h with e | ⟨e, _⟩ <;> subst e <;> exact ⟨rfl, rfl⟩
  | struct fs =>
    simp only [implode] at h
    split at h
    · rename_i hl; have := asAgg?_some hl; subst this; exact ⟨rfl, rfl⟩
    · cases h
theorem implodes_TRs {ob : Nat → OB} : ∀ (T : Tys) (vs : List PV) (x : T.den) (xs : List Value), implodes T vs = some x → TRs w A ob μ vs xs → TRs w A ob μ (explodes T x) xs
  | .nil, vs, y, xs, h, hv => by
    simp only [implodes] at h
    split at h
    · simpa only [explodes, TRs] using hv
    · cases h
  | .cons t ts, vs, y, xs, h, hv => by
    simp only [implodes] at h
    split at h
    · obtain ⟨x, h1, h⟩ := Option.bind_eq_some_iff.1 h
      obtain ⟨z, h2, h9⟩ := Option.bind_eq_some_iff.1 h
      cases h9
      simp only [TRs] at hv
      obtain ⟨u, rest, rfl, h3, h4⟩ := hv
      simp only [explodes, TRs]
      refine ⟨u, rest, rfl, ?_, implodes_TRs ts _ z rest h2 h4⟩
      obtain ⟨g1, g2⟩ := implode_agg h1
      rcases h3 with h3 | ⟨h3, h5⟩
      · rw [g2] at h3; cases h3
      · exact .inr ⟨explode_sound _ _ _ (implode_sound _ _ _ _ h1 h3), by rw [h5, g1, explode_agg]⟩
    · cases h
theorem implodes_wf {ob : Nat → OB} : ∀ (T : Tys) (vs : List PV) (x : T.den) (xs : List Value), implodes T vs = some x → TRs w A ob μ vs xs → WFs T x
  | .nil, vs, y, xs, h, hv => by simp only [WFs]
  | .cons t ts, vs, y, xs, h, hv => by
    simp only [implodes] at h
    split at h
    · obtain ⟨x, h1, h⟩ := Option.bind_eq_some_iff.1 h
      obtain ⟨z, h2, h9⟩ := Option.bind_eq_some_iff.1 h
      cases h9
      simp only [TRs] at hv
      obtain ⟨u, rest, rfl, h3, h4⟩ := hv
      simp only [WFs]
      refine ⟨?_, implodes_wf ts _ z rest h2 h4⟩
      obtain ⟨g1, g2⟩ := implode_agg h1
      rcases h3 with h3 | ⟨h3, h5⟩
      · rw [g2] at h3; cases h3
      · exact DR.wf _ _ _ (implode_sound _ _ _ _ h1 h3)
    · cases h
end
section
variable {P : Program} {E : Env} {ρ τ : Type}
theorem retK_nat {S : St} {rs : List ResultVar} {K : PV → List OB → Option ρ} {f : ρ → Option τ} : (retK E S rs K).bind f = retK E S rs (fun v l => (K v l).bind f) := by
  unfold retK
  split <;> rfl
theorem evFun_nat {H : Hints} {k : Nat} {code : Code} {nt : Nat} {rs : List ResultVar} {args : List PV} {objs : List OB} {K : PV → List OB → Option ρ} {f : ρ → Option τ} :
    (evFun E H k code nt rs args objs K).bind f = evFun E H k code nt rs args objs (fun v l => (K v l).bind f) := by
  unfold evFun
  rw [ev_nat]
  congr 1
  exact Kt.ext (fun S => retK_nat) (fun _ _ => rfl) (fun S => retK_nat)
theorem evFun_param {H : Hints} {k : Nat} {code : Code} {nt : Nat} {rs : List ResultVar} {args : List PV} {objs : List OB} {K : PV → List OB → Option ρ} :
    evFun E H k code nt rs args objs K = match evFun E H k code nt rs args objs (fun v l => some (v, l)) with
      | some p => K p.1 p.2
      | none => none := by
  have := evFun_nat (E := E) (H := H) (k := k) (code := code) (nt := nt) (rs := rs) (args := args) (objs := objs) (K := fun v l => some (v, l)) (f := fun p => K p.1 p.2)
  simp only [Option.bind_some] at this
  rw [← this]
  cases evFun E H k code nt rs args objs (fun v l => some (v, l)) <;> rfl
/-- a function as the evaluator sees it -/
def FSem.ev (E : Env) (H : Hints) (k : Nat) (code : Code) (nt : Nat) (rs : List ResultVar) : FSem where
  modes := []
  quiet := false
  run := fun args objs K => evFun E H k code nt rs args objs K
  param := fun args objs K => evFun_param
/-- a function that its callers see as the evaluator does -/
theorem ev_inline (hE : EnvOK P E) (hm : P.follows .mixedOrders = true) {H : Hints} {k : Nat} {f : FuncId} {fn : Func} {code : Code} {nt : Nat} {rs : List ResultVar} (hf : P.funcs[f]? = some fn) (hname : (fn.name == "runtime.NumGoroutine") = false) (hb : fn.body = some code) (hnt : fn.ntmps = nt) (hrs : fn.results.toList = rs) : SoundF P f (FSem.ev E H k code nt rs) :=
  fun_sound hE hm (H := H) hf hname hb hnt hrs (fun args objs K r h => ⟨k, h⟩)
/-- A FUNCTION FROM DATA TO DATA. -/
theorem enters_of {f : FuncId} {fn : Func} {code : Code} (hf : P.funcs[f]? = some fn) (hname : (fn.name == "runtime.NumGoroutine") = false) (hb : fn.body = some code) : Enters P f := fun args w => by
  have h1 : (callFunc f args).run P w = .ok (.enter f args) w := by
    unfold callFunc
    have hn' : ¬ fn.name = "runtime.NumGoroutine" := by simpa using hname
    simp [hf, hn', hb]
  exact h1
theorem pfn_sound {E : Nat → Env} (hE : ∀ k, EnvOK P (E k)) (hm : P.follows .mixedOrders = true) {H : Hints} {f : FuncId} {fn : Func} {code : Code} {nt : Nat} {rs : List ResultVar} (hf : P.funcs[f]? = some fn) (hname : (fn.name == "runtime.NumGoroutine") = false) (hb : fn.body = some code) (hnt : fn.ntmps = nt) (hrs : fn.results.toList = rs) {T Rs : Tys} {g : T.den → Option Rs.den}
    (hg : ∀ (x : T.den) (y : Rs.den), WFs T x → g x = some y → ∃ k, evFun (E k) H k code nt rs (explodes T x) [] (dec Rs) = some y) : SoundF P f (FSem.pfn T Rs g) := by
  intro ρ args objs K r h
  cases objs with
  | cons b l => simp only [FSem.pfn, reduceCtorEq] at h
  | nil =>
    simp only [FSem.pfn] at h
    split at h
    · rename_i x hx
      obtain ⟨y, hy, hK⟩ := Option.bind_eq_some_iff.1 h
      refine ⟨enters_of hf hname hb, fun w A μ vals hO hargs => ?_⟩
      obtain ⟨k, hk⟩ := hg x y (implodes_wf T args x vals hx hargs) hy
      rw [evFun_param] at hk
      split at hk
      · rename_i p hp
        have hs : SoundF P f (FSem.ev (E k) H k code nt rs) := fun_sound (hE k) hm (H := H) hf hname hb hnt hrs (fun args objs K r h => ⟨k, h⟩)
        obtain ⟨hen, hcalls⟩ := hs (explodes T x) [] (fun v l => some (v, l)) p hp
        refine (hcalls w A μ vals hO (implodes_TRs T args x vals hx hargs)).mono ?_
        rintro e w' ⟨v, res, objs', μ', rfl, hpe, hpost⟩
        simp only [Option.some.injEq] at hpe
        subst hpe
        have hd : ∀ i, obs [] i = .dead := fun i => rfl
        have hold : ∀ b, own (obs []) μ b → False := fun b hb => by obtain ⟨i, h, _⟩ := hb; rw [hd] at h; cases h
        have hOr : ∀ o, OR w' (fun b => A b ∨ own (obs objs') μ' b) (obs objs') μ' o := hpost.lie.each
        have hn : ∀ b, own (obs objs') μ' b → ¬ A b ∧ b < w'.heap.size := fun b hb => by
          refine ⟨fun hA => ?_, hpost.lie.old b (.inr hb)⟩
          rcases hpost.mine b hb with h | h
          · exact hold b h
          · have := hO.old b hA; omega
        have hres : VR w' A (obs []) μ (resPV Rs y) v := by
          cases Rs with
          | nil =>
            change decNil res = some y at hk
            unfold decNil at hk
            split at hk
            · split at hk
              · have hr := hpost.res
                obtain ⟨us, hus, htr⟩ := hr.tup
                subst hus
                simp only [TRs] at htr
                refine .of_one ?_ rfl rfl
                simp only [resPV, CR, TRs]
                exact ⟨us, rfl, htr⟩
              · cases hk
            · cases hk
          | cons t ts =>
            cases ts with
            | nil =>
              change (frz objs' t res).bind (fun x => some (x, ())) = some y at hk
              obtain ⟨z, h1, h2⟩ := Option.bind_eq_some_iff.1 hk
              cases h2
              exact frz_VR hOr (fun b hb => .inl hb) hn h1 hpost.res _ _
            | cons t' ts' =>
              change decMany objs' (.cons t (.cons t' ts')) res = some y at hk
              unfold decMany at hk
              split at hk
              · have hr := hpost.res
                obtain ⟨us, hus, htr⟩ := hr.tup
                subst hus
                refine .of_one ?_ rfl rfl
                simp only [resPV, CR]
                exact ⟨us, rfl, frzs_TRs hOr (fun b hb => .inl hb) hn _ _ _ _ _ _ hk htr⟩
              · cases hk
        refine ⟨v, _, [], μ, rfl, hK, ⟨Nat.le_refl _, hpost.keep, ⟨fun o => by unfold OR; rw [hd]; trivial, fun o _ _ h => (by rw [hd] at h; cases h), fun b hb => (hold b hb).elim, fun b hb => ?_⟩, ?_, fun b hb => (hold b hb).elim, fun i hi => by simp at hi⟩⟩
        · rcases hb with hb | hb
          · exact Nat.lt_of_lt_of_le (hO.old b hb) hpost.keep.size
          · exact (hold b hb).elim
        · exact VR.later (Keep.refl None w') (fun b _ hb => hb.elim id (fun h => (hold b h).elim)) (fun _ h => h.elim) (fun o _ => Later.refl _ _ o) hres
      · cases hk
    · cases h
/-- .. that always has an answer -/
theorem fn_sound {E : Nat → Env} (hE : ∀ k, EnvOK P (E k)) (hm : P.follows .mixedOrders = true) {H : Hints} {f : FuncId} {fn : Func} {code : Code} {nt : Nat} {rs : List ResultVar} (hf : P.funcs[f]? = some fn) (hname : (fn.name == "runtime.NumGoroutine") = false) (hb : fn.body = some code) (hnt : fn.ntmps = nt) (hrs : fn.results.toList = rs) {T Rs : Tys} {g : T.den → Rs.den}
    (hg : ∀ (x : T.den), WFs T x → ∃ k, evFun (E k) H k code nt rs (explodes T x) [] (dec Rs) = some (g x)) : SoundF P f (FSem.fn T Rs g) := by
  have this : SoundF P f (FSem.pfn T Rs fun x => some (g x)) := pfn_sound hE hm (H := H) hf hname hb hnt hrs (fun x y hwf hy => by
    simp only [Option.some.injEq] at hy
    subst hy
    exact hg x hwf)
  intro ρ args objs K r h
  exact this args objs K r h
end
end Go.Vm
