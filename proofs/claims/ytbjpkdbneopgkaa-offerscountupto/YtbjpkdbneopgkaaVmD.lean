/- Vm, part 25: functions from data to data. Own work. -/
import Derived.Test.YtbjpkdbneopgkaaVmF
import Derived.WalkKit
import Derived.ProofKit
import Derived.OpenShut
import Derived.JoinedCond
import Derived.ChangeStays
set_option linter.unusedVariables false
set_option linter.unusedSimpArgs false
set_option linter.unusedSectionVars false
namespace Go.Vm
variable [MonotC]
open Go.RowKit
def asRow? (l : List OB) (T : Ty) (o : Nat) : Option (List T.den) :=
  match l.getD o .dead with
  | .row U xs => castL U T xs
  | _ => none
def asSlF? (l : List OB) (T : Ty) : PV → Option (List T.den)
  | .row o => asRow? l T o
  | .sl U xs => castL U T xs
  | .nil => some []
  | .sub o lo hi => (asRow? l T o).bind fun xs => some ((xs.take hi.toNat).drop lo.toNat)
  | _ => none
mutual
/-- a value as data; its own rows are given up -/
def frz (l : List OB) : (T : Ty) → PV → Option T.den
  | .int k, v => asInt? k v
  | .bool, v => asBool? v
  | .str, v => asStr? v
  | .slice t, v => asSlF? l t v
  | .struct fs, v => match asAgg? v with
    | some vs => frzs l fs vs
    | none => none
def frzs (l : List OB) : (T : Tys) → List PV → Option T.den
  | .nil, vs => match vs with
    | [] => some ()
    | _ => none
  | .cons t ts, vs => match vs with
    | v :: vs => (frz l t v).bind fun x => (frzs l ts vs).bind fun y => some (x, y)
    | [] => none
end
theorem asSlF_some {l : List OB} {T : Ty} {v : PV} {xs : List T.den} (h : asSlF? l T v = some xs) : (∃ o, v = .row o ∧ l.getD o .dead = .row T xs) ∨ v = .sl T xs ∨ (v = .nil ∧ xs = []) ∨ (∃ o lo hi ys, v = .sub o lo hi ∧ l.getD o .dead = .row T ys ∧ xs = (ys.take hi.toNat).drop lo.toNat) := by
  unfold asSlF? at h
  split at h
  · rename_i o
    unfold asRow? at h
    split at h
    · rename_i U ys hob
      obtain ⟨e, h2⟩ := castL_some h
      subst e; subst h2
      exact .inl ⟨o, rfl, hob⟩
    · cases h
  · obtain ⟨e, h2⟩ := castL_some h
    subst e; subst h2
    exact .inr (.inl rfl)
  · simp only [Option.some.injEq] at h
    exact .inr (.inr (.inl ⟨rfl, h.symm⟩))
  · rename_i o lo hi
    obtain ⟨ys, h1, h2⟩ := Option.bind_eq_some_iff.1 h
    simp only [Option.some.injEq] at h2
    unfold asRow? at h1
    split at h1
    · rename_i U zs hob
      obtain ⟨e, h3⟩ := castL_some h1
      subst e; subst h3
      exact .inr (.inr (.inr ⟨o, lo, hi, _, rfl, hob, h2.symm⟩))
    · cases h1
  · cases h
def decNil : PV → Option Unit
  | .tup l => match l with
    | [] => some ()
    | _ => none
  | _ => none
def decMany (l : List OB) (Ts : Tys) : PV → Option Ts.den
  | .tup vs => frzs l Ts vs
  | _ => none
/-- the results of a function as data -/
def dec (Rs : Tys) (v : PV) (l : List OB) : Option Rs.den :=
  match Rs with
  | .nil => decNil v
  | .cons t ts => match ts with
    | .nil => (frz l t v).bind fun x => some (x, ())
    | .cons t' ts' => decMany l (.cons t (.cons t' ts')) v
/-- results, from data -/
def resPV : (Rs : Tys) → Rs.den → PV
  | .nil, _ => .tup []
  | .cons t ts, y => match ts, y with
    | .nil, y => explode t y.1
    | .cons t' ts', y => .tup (explodes (.cons t (.cons t' ts')) y)
def modeOf : Ty → Mode
  | .slice t => .ro t
  | _ => .val
def modesOf : Tys → List Mode
  | .nil => []
  | .cons t ts => modeOf t :: modesOf ts
/-! ### Sizes -/
set_option linter.unusedVariables false
mutual
/-- all lengths and sizes are those of a machine -/
def WF : (T : Ty) → T.den → Prop
  | .int _, _ => True
  | .bool, _ => True
  | .str, s => ByteArray.size s ≤ 9223372036854775807
  | .slice t, xs => List.length xs ≤ 9223372036854775807 ∧ ∀ i x, nth (α := t.den) xs i = some x → WF t x
  | .struct fs, x => WFs fs x
def WFs : (T : Tys) → T.den → Prop
  | .nil, _ => True
  | .cons t ts, x => WF t x.1 ∧ WFs ts x.2
end
mutual
theorem DR.wf {w : World} {A : Nat → Prop} : ∀ (T : Ty) (x : T.den) (cs : List Value), DR w A T x cs → WF T x
  | .int _, _, _, _ => by simp only [WF]
  | .bool, _, _, _ => by simp only [WF]
  | .str, _, _, h => by simp only [DR] at h; simp only [WF]; exact h.2
  | .slice t, xs, cs, h => by
    simp only [DR] at h
    simp only [WF]
    obtain ⟨a, c, _, hc, h⟩ := h
    refine ⟨Nat.le_trans hc.1 hc.2, fun i x hi => ?_⟩
    rcases h with h | ⟨b, off, _, _, _, h⟩
    · subst h; simp [nth] at hi
    · obtain ⟨cs', h, _⟩ := h i x hi
      exact DR.wf t x cs' h
  | .struct fs, x, cs, h => by simp only [DR] at h; simp only [WF]; exact DRs.wf fs x cs h
theorem DRs.wf {w : World} {A : Nat → Prop} : ∀ (T : Tys) (x : T.den) (cs : List Value), DRs w A T x cs → WFs T x
  | .nil, _, _, _ => by simp only [WFs]
  | .cons t ts, x, cs, h => by
    simp only [DRs] at h
    simp only [WFs]
    obtain ⟨c1, c2, _, h1, h2⟩ := h
    exact ⟨DR.wf t x.1 c1 h1, DRs.wf ts x.2 c2 h2⟩
end
/-- a function from data to data -/
def FSem.fn (T Rs : Tys) (g : T.den → Rs.den) : FSem where
  modes := modesOf T
  quiet := true
  slr := (Ty.struct Rs).deep
  run := fun args objs K => match objs with
    | [] => match implodes T args with
      | some x => K (resPV Rs (g x)) []
      | none => none
    | _ :: _ => none
  param := fun args objs K => by
    cases objs with
    | nil => simp only; cases implodes T args <;> rfl
    | cons b l => rfl
/-- ..: where it has an answer -/
def FSem.pfn (T Rs : Tys) (g : T.den → Option Rs.den) : FSem where
  modes := modesOf T
  quiet := true
  slr := (Ty.struct Rs).deep
  run := fun args objs K => match objs with
    | [] => match implodes T args with
      | some x => (g x).bind fun y => K (resPV Rs y) []
      | none => none
    | _ :: _ => none
  param := fun args objs K => by
    cases objs with
    | nil =>
      simp only
      cases implodes T args with
      | none => rfl
      | some x => simp only; cases g x <;> rfl
    | cons b l => rfl
section
variable {w : World} {A A0 : Nat → Prop} {μ : Nat → Value} {l : List OB}
mutual
theorem frz_sound (hO : ∀ o, OR w A (obs l) μ o) (hA : ∀ b, A0 b → A b) (hn : ∀ b, own (obs l) μ b → ¬ A0 b ∧ b < w.heap.size) : ∀ (T : Ty) (v : PV) (y : T.den) (cs : List Value), frz l T v = some y → CR w A (obs l) μ v cs → DR w A0 T y cs
  | .int k, v, y, cs, h, hc => by
    simp only [frz] at h
    have := asInt?_some h
    subst this
    simp only [CR] at hc
    simpa only [DR] using hc
  | .bool, v, y, cs, h, hc => by
    simp only [frz] at h
    have := asBool?_some h
    subst this
    simp only [CR] at hc
    simpa only [DR] using hc
  | .str, v, y, cs, h, hc => by
    simp only [frz] at h
    have := asStr?_some h
    subst this
    simp only [CR] at hc
    simpa only [DR] using hc
  | .slice t, v, y, cs, h, hc => by
    simp only [frz] at h
    rcases asSlF_some h with ⟨o, rfl, hob⟩ | rfl | ⟨rfl, rfl⟩ | ⟨o, lo, hi, ys, rfl, hob, rfl⟩
    · have hob' : obs l o = .row t y := hob
      simp only [CR] at hc
      obtain ⟨v, rfl, _, hm⟩ := hc
      simp only [hob'] at hm
      have hra := (hO o).rowAt hob'
      exact rowAt_DR hA (hra.head hm) fun b hne hb => hn b ⟨o, by rw [hob']; rfl, hra.blk hm hne hb⟩
    · simp only [CR] at hc
      exact DR.keep (Keep.refl None w) (fun b _ hb => hA b hb) (fun _ h => h.elim) _ _ _ hc
    · simp only [CR] at hc
      subst hc
      simp only [DR]
      exact ⟨none, 0, rfl, ⟨Nat.le_refl _, Nat.zero_le _⟩, .inl rfl⟩
    · have hob' : obs l o = .row t ys := hob
      simp only [CR] at hc
      obtain ⟨v, rfl, _, hm⟩ := hc
      simp only [hob'] at hm
      obtain ⟨hra, _, hbk, _⟩ := ((hO o).rowAt hob').sub hm
      refine rowAt_DR hA hra fun b hne hb => hn b ⟨o, by rw [hob']; rfl, hbk.elim (fun h => h ▸ hb) (fun ⟨a3, h⟩ => ?_)⟩
      rcases hra with ⟨h0, _⟩ | ⟨_, _, _, _, _, h2, _, h3, _⟩
      · exact absurd (List.length_eq_zero_iff.1 h0) hne
      · rw [h] at h2; simp only [Value.slice.injEq] at h2; exact absurd (List.length_eq_zero_iff.1 h2.2.1.symm) hne
  | .struct fs, v, y, cs, h, hc => by
    simp only [frz] at h
    split at h
    · rename_i vs hvs
      have := asAgg?_some hvs
      subst this
      simp only [CR] at hc
      simp only [DR]
      exact frzs_sound hO hA hn fs _ y cs h hc
    · cases h
theorem frzs_sound (hO : ∀ o, OR w A (obs l) μ o) (hA : ∀ b, A0 b → A b) (hn : ∀ b, own (obs l) μ b → ¬ A0 b ∧ b < w.heap.size) : ∀ (T : Tys) (vs : List PV) (y : T.den) (cs : List Value), frzs l T vs = some y → CRs w A (obs l) μ vs cs → DRs w A0 T y cs
  | .nil, vs, y, cs, h, hc => by
    simp only [frzs] at h
    split at h
    · simp only [CRs] at hc
      simpa only [DRs] using hc
    · cases h
  | .cons t ts, vs, y, cs, h, hc => by
    simp only [frzs] at h
    split at h
    · obtain ⟨x, h1, h⟩ := Option.bind_eq_some_iff.1 h
      obtain ⟨z, h2, h9⟩ := Option.bind_eq_some_iff.1 h
      cases h9
      simp only [CRs] at hc
      obtain ⟨c1, c2, e, h3, h4⟩ := hc
      simp only [DRs]
      exact ⟨c1, c2, e, frz_sound hO hA hn t _ x c1 h1 h3, frzs_sound hO hA hn ts _ z c2 h2 h4⟩
    · cases h
end
theorem explode_agg : ∀ (T : Ty) (x : T.den), (explode T x).isAgg = T.isAgg
  | .int _, _ => rfl | .bool, _ => rfl | .str, _ => rfl | .slice _, _ => rfl | .struct _, _ => rfl
theorem frz_agg {T : Ty} {v : PV} {y : T.den} (h : frz l T v = some y) : v.isAgg = T.isAgg ∧ v.isAny = false := by
  cases T with
  | int k => simp only [frz] at h; have := asInt?_some h; subst this; exact ⟨rfl, rfl⟩
  | bool => simp only [frz] at h; have := asBool?_some h; subst this; exact ⟨rfl, rfl⟩
  | str => simp only [frz] at h; have := asStr?_some h; subst this; exact ⟨rfl, rfl⟩
  | slice t => simp only [frz] at h; rcases asSlF_some h with ⟨o, e, _⟩ | e | ⟨e, _⟩ | ⟨o, _, _, _, e, _⟩ <;> subst e <;> exact ⟨rfl, rfl⟩
  | struct fs =>
    simp only [frz] at h
    split at h
    · rename_i hl; have := asAgg?_some hl; subst this; exact ⟨rfl, rfl⟩
    · cases h
theorem frz_VR (hO : ∀ o, OR w A (obs l) μ o) (hA : ∀ b, A0 b → A b) (hn : ∀ b, own (obs l) μ b → ¬ A0 b ∧ b < w.heap.size) {T : Ty} {v : PV} {y : T.den} {x : Value} (h : frz l T v = some y) (hv : VR w A (obs l) μ v x) (ob2 : Nat → OB) (μ2 : Nat → Value) : VR w A0 ob2 μ2 (explode T y) x := by
  obtain ⟨h1, h2⟩ := frz_agg h
  rcases hv with hv | ⟨hv, hv2⟩
  · rw [h2] at hv; cases hv
  · exact .inr ⟨explode_sound _ _ _ (frz_sound hO hA hn T v y _ h hv), by rw [hv2, h1, explode_agg]⟩
theorem frzs_TRs (hO : ∀ o, OR w A (obs l) μ o) (hA : ∀ b, A0 b → A b) (hn : ∀ b, own (obs l) μ b → ¬ A0 b ∧ b < w.heap.size) (ob2 : Nat → OB) (μ2 : Nat → Value) : ∀ (T : Tys) (vs : List PV) (y : T.den) (xs : List Value), frzs l T vs = some y → TRs w A (obs l) μ vs xs → TRs w A0 ob2 μ2 (explodes T y) xs
  | .nil, vs, y, xs, h, hv => by
    simp only [frzs] at h
    split at h
    · simp only [TRs] at hv
      simp only [explodes, TRs]
      exact hv
    · cases h
  | .cons t ts, vs, y, xs, h, hv => by
    simp only [frzs] at h
    split at h
    · obtain ⟨x, h1, h⟩ := Option.bind_eq_some_iff.1 h
      obtain ⟨z, h2, h9⟩ := Option.bind_eq_some_iff.1 h
      cases h9
      simp only [TRs] at hv
      obtain ⟨u, rest, rfl, h3, h4⟩ := hv
      simp only [explodes, TRs]
      exact ⟨u, rest, rfl, frz_VR hO hA hn h1 h3 ob2 μ2, frzs_TRs hO hA hn ob2 μ2 ts _ z rest h2 h4⟩
    · cases h
theorem implode_agg {T : Ty} {v : PV} {y : T.den} (h : implode T v = some y) : v.isAgg = T.isAgg ∧ v.isAny = false := by
  cases T with
  | int k => simp only [implode] at h; have := asInt?_some h; subst this; exact ⟨rfl, rfl⟩
  | bool => simp only [implode] at h; have := asBool?_some h; subst this; exact ⟨rfl, rfl⟩
  | str => simp only [implode] at h; have := asStr?_some h; subst this; exact ⟨rfl, rfl⟩
  | slice t => simp only [implode] at h; rcases asSl?_some h with e | ⟨e, _⟩ <;> subst e <;> exact ⟨rfl, rfl⟩
  | struct fs =>
    simp only [implode] at h
    split at h
    · rename_i hl; have := asAgg?_some hl; subst this; exact ⟨rfl, rfl⟩
    · cases h
theorem implodes_TRs {ob : Nat → OB} : ∀ (T : Tys) (vs : List PV) (x : T.den) (xs : List Value), implodes T vs = some x → TRs w A ob μ vs xs → TRs w A ob μ (explodes T x) xs
  | .nil, vs, y, xs, h, hv => by
    simp only [implodes] at h
    split at h
    · simpa only [explodes, TRs] using hv
    · cases h
  | .cons t ts, vs, y, xs, h, hv => by
    simp only [implodes] at h
    split at h
    · obtain ⟨x, h1, h⟩ := Option.bind_eq_some_iff.1 h
      obtain ⟨z, h2, h9⟩ := Option.bind_eq_some_iff.1 h
      cases h9
      simp only [TRs] at hv
      obtain ⟨u, rest, rfl, h3, h4⟩ := hv
      simp only [explodes, TRs]
      refine ⟨u, rest, rfl, ?_, implodes_TRs ts _ z rest h2 h4⟩
      obtain ⟨g1, g2⟩ := implode_agg h1
      rcases h3 with h3 | ⟨h3, h5⟩
      · rw [g2] at h3; cases h3
      · exact .inr ⟨explode_sound _ _ _ (implode_sound _ _ _ _ h1 h3), by rw [h5, g1, explode_agg]⟩
    · cases h
theorem implodes_wf {ob : Nat → OB} : ∀ (T : Tys) (vs : List PV) (x : T.den) (xs : List Value), implodes T vs = some x → TRs w A ob μ vs xs → WFs T x
  | .nil, vs, y, xs, h, hv => by simp only [WFs]
  | .cons t ts, vs, y, xs, h, hv => by
    simp only [implodes] at h
    split at h
    · obtain ⟨x, h1, h⟩ := Option.bind_eq_some_iff.1 h
      obtain ⟨z, h2, h9⟩ := Option.bind_eq_some_iff.1 h
      cases h9
      simp only [TRs] at hv
      obtain ⟨u, rest, rfl, h3, h4⟩ := hv
      simp only [WFs]
      refine ⟨?_, implodes_wf ts _ z rest h2 h4⟩
      obtain ⟨g1, g2⟩ := implode_agg h1
      rcases h3 with h3 | ⟨h3, h5⟩
      · rw [g2] at h3; cases h3
      · exact DR.wf _ _ _ (implode_sound _ _ _ _ h1 h3)
    · cases h
end
section
variable {P : Program} {E : Env} {ρ τ : Type}
theorem retK_nat {S : St} {rs : List ResultVar} {K : PV → List OB → Option ρ} {f : ρ → Option τ} : (retK E S rs K).bind f = retK E S rs (fun v l => (K v l).bind f) := by
  unfold retK
  split <;> rfl
theorem evFun_nat {H : Hints} {k : Nat} {code : Code} {nt : Nat} {rs : List ResultVar} {args : List PV} {objs : List OB} {K : PV → List OB → Option ρ} {f : ρ → Option τ} :
    (evFun E H k code nt rs args objs K).bind f = evFun E H k code nt rs args objs (fun v l => (K v l).bind f) := by
  unfold evFun
  rw [ev_nat]
  congr 1
  exact Kt.ext (fun S => retK_nat) (fun _ _ => rfl) (fun S => retK_nat)
theorem evFun_param {H : Hints} {k : Nat} {code : Code} {nt : Nat} {rs : List ResultVar} {args : List PV} {objs : List OB} {K : PV → List OB → Option ρ} :
    evFun E H k code nt rs args objs K = match evFun E H k code nt rs args objs (fun v l => some (v, l)) with
      | some p => K p.1 p.2
      | none => none := by
  have := evFun_nat (E := E) (H := H) (k := k) (code := code) (nt := nt) (rs := rs) (args := args) (objs := objs) (K := fun v l => some (v, l)) (f := fun p => K p.1 p.2)
  simp only [Option.bind_some] at this
  rw [← this]
  cases evFun E H k code nt rs args objs (fun v l => some (v, l)) <;> rfl
/-- a function as the evaluator sees it -/
noncomputable def FSem.ev (E : Env) (H : Hints) (k : Nat) (code : Code) (nt : Nat) (rs : List ResultVar) : FSem where
  modes := []
  quiet := false
  run := fun args objs K => evFun E H k code nt rs args objs K
  param := fun args objs K => evFun_param
/-- a function that its callers see as the evaluator does -/
theorem ev_inline (hE : EnvOK P E) (hm : P.follows .mixedOrders = true) {H : Hints} {k : Nat} {f : FuncId} {fn : Func} {code : Code} {nt : Nat} {rs : List ResultVar} (hf : P.funcs[f]? = some fn) (hname : (fn.name == "runtime.NumGoroutine") = false) (hb : fn.body = some code) (hnt : fn.ntmps = nt) (hrs : fn.results.toList = rs) : SoundF P f (FSem.ev E H k code nt rs) :=
  fun_sound hE hm (H := H) hf hname hb hnt hrs (fun args objs K r h => ⟨k, h⟩)
/-- A FUNCTION FROM DATA TO DATA. -/
theorem pfn_of_calls {f : FuncId} (hen : Enters P f) {T Rs : Tys} {g : T.den → Option Rs.den}
    (hg : ∀ (x : T.den) (y : Rs.den), WFs T x → g x = some y → ∀ (w : World) (A : Nat → Prop) (μ : Nat → Value) (vals : List Value), Objs w A (obs []) μ → TRs w A (obs []) μ (explodes T x) vals →
      Calls P f vals.toArray w fun e w' => ∃ v res objs' μ', e = .returned v ∧ dec Rs res objs' = some y ∧ CallPost w w' A [] μ objs' μ' res v) : SoundF P f (FSem.pfn T Rs g) := by
  intro ρ args objs K r h
  cases objs with
  | cons b l => simp only [FSem.pfn, reduceCtorEq] at h
  | nil =>
    simp only [FSem.pfn] at h
    split at h
    · rename_i x hx
      obtain ⟨y, hy, hK⟩ := Option.bind_eq_some_iff.1 h
      refine ⟨hen, fun w A μ vals hO hargs => ?_⟩
      refine (hg x y (implodes_wf T args x vals hx hargs) hy w A μ vals hO (implodes_TRs T args x vals hx hargs)).mono ?_
      rintro e w' ⟨v, res, objs', μ', rfl, hk, hpost⟩
      have hd : ∀ i, obs [] i = .dead := fun i => rfl
      have hold : ∀ b, own (obs []) μ b → False := fun b hb => by obtain ⟨i, h, _⟩ := hb; rw [hd] at h; cases h
      have hOr : ∀ o, OR w' (fun b => A b ∨ own (obs objs') μ' b) (obs objs') μ' o := hpost.lie.each
      have hn : ∀ b, own (obs objs') μ' b → ¬ A b ∧ b < w'.heap.size := fun b hb => by
        refine ⟨fun hA => ?_, hpost.lie.old b (.inr hb)⟩
        rcases hpost.mine b hb with h | h
        · exact hold b h
        · have := hO.old b hA; omega
      have hres : VR w' A (obs []) μ (resPV Rs y) v := by
        cases Rs with
        | nil =>
          change decNil res = some y at hk
          unfold decNil at hk
          split at hk
          · split at hk
            · have hr := hpost.res
              obtain ⟨us, hus, htr⟩ := hr.tup
              subst hus
              simp only [TRs] at htr
              refine .of_one ?_ rfl rfl
              simp only [resPV, CR, TRs]
              exact ⟨us, rfl, htr⟩
            · cases hk
          · cases hk
        | cons t ts =>
          cases ts with
          | nil =>
            change (frz objs' t res).bind (fun x => some (x, ())) = some y at hk
            obtain ⟨z, h1, h2⟩ := Option.bind_eq_some_iff.1 hk
            cases h2
            exact frz_VR hOr (fun b hb => .inl hb) hn h1 hpost.res _ _
          | cons t' ts' =>
            change decMany objs' (.cons t (.cons t' ts')) res = some y at hk
            unfold decMany at hk
            split at hk
            · have hr := hpost.res
              obtain ⟨us, hus, htr⟩ := hr.tup
              subst hus
              refine .of_one ?_ rfl rfl
              simp only [resPV, CR]
              exact ⟨us, rfl, frzs_TRs hOr (fun b hb => .inl hb) hn _ _ _ _ _ _ hk htr⟩
            · cases hk
      refine ⟨v, _, [], μ, rfl, hK, ⟨Nat.le_refl _, hpost.keep, ⟨fun o => by unfold OR; rw [hd]; trivial, fun o _ _ h => (by rw [hd] at h; cases h), fun b hb => (hold b hb).elim, fun b hb => ?_, lay_keep (A' := fun b => A b ∨ own (obs []) μ b) hO.lay hpost.keep (fun b _ hb => hb.elim id (fun h => (hold b h).elim)) (fun b hb => (hold b hb).elim)⟩, ?_, fun b hb => (hold b hb).elim, fun i hi => by simp at hi⟩⟩
      · rcases hb with hb | hb
        · exact Nat.lt_of_lt_of_le (hO.old b hb) hpost.keep.size
        · exact (hold b hb).elim
      · exact VR.later (Keep.refl None w') (fun b _ hb => hb.elim id (fun h => (hold b h).elim)) (fun _ h => h.elim) (fun o _ => Later.refl _ _ o) hres
    · cases h
theorem pfn_sound {E : Nat → Env} (hE : ∀ k, EnvOK P (E k)) (hm : P.follows .mixedOrders = true) {H : Hints} {f : FuncId} {fn : Func} {code : Code} {nt : Nat} {rs : List ResultVar} (hf : P.funcs[f]? = some fn) (hname : (fn.name == "runtime.NumGoroutine") = false) (hb : fn.body = some code) (hnt : fn.ntmps = nt) (hrs : fn.results.toList = rs) {T Rs : Tys} {g : T.den → Option Rs.den}
    (hg : ∀ (x : T.den) (y : Rs.den), WFs T x → g x = some y → ∃ k, evFun (E k) H k code nt rs (explodes T x) [] (dec Rs) = some y) : SoundF P f (FSem.pfn T Rs g) :=
  pfn_of_calls (enters_of hf hname hb) fun x y hw hy w A μ vals hO hargs => by
    obtain ⟨k, hk⟩ := hg x y hw hy
    exact calls_ev (hE k).1 hf hb hnt hrs (evx := fun S K => ev { E k with give := ([] : List OB).isEmpty } H k code 0 S K) (fun c hc S K r μ a w n Q h hs hn hp => ev_sound ((hE k).giving hc) hm code 0 S K r μ a w n Q h hs hn hp) hk w A μ vals hO hargs
/-- .. that always has an answer -/
theorem fn_sound {E : Nat → Env} (hE : ∀ k, EnvOK P (E k)) (hm : P.follows .mixedOrders = true) {H : Hints} {f : FuncId} {fn : Func} {code : Code} {nt : Nat} {rs : List ResultVar} (hf : P.funcs[f]? = some fn) (hname : (fn.name == "runtime.NumGoroutine") = false) (hb : fn.body = some code) (hnt : fn.ntmps = nt) (hrs : fn.results.toList = rs) {T Rs : Tys} {g : T.den → Rs.den}
    (hg : ∀ (x : T.den), WFs T x → ∃ k, evFun (E k) H k code nt rs (explodes T x) [] (dec Rs) = some (g x)) : SoundF P f (FSem.fn T Rs g) := by
  have this : SoundF P f (FSem.pfn T Rs fun x => some (g x)) := pfn_sound hE hm (H := H) hf hname hb hnt hrs (fun x y hwf hy => by
    simp only [Option.some.injEq] at hy
    subst hy
    exact hg x hwf)
  intro ρ args objs K r h
  exact this args objs K r h
end
end Go.Vm

/- Vm, part 29b: functions that range over a map in whatever order, and come to one thing. Own work. -/
set_option linter.unusedVariables false
set_option linter.unusedSimpArgs false
set_option linter.unusedSectionVars false
namespace Go.Vm
variable [MonotC]
section
variable {P : Program} {E : Env} {H : Hints} {c : Cx}
end
end Go.Vm

/- Vm, part 26: what a statement's arguments are as data. Own work. -/
set_option linter.unusedVariables false
set_option linter.unusedSimpArgs false
namespace Go.Vm
open Go.RowKit Go.ChangeShapes Go.WideShapes Go.ChangeAt
/-! ### How large data are -/
mutual
/-- every value and every letter counts -/
def bulk : (T : Ty) → T.den → Nat
  | .int _, _ => 1
  | .bool, _ => 1
  | .str, s => ByteArray.size s + 1
  | .slice t, xs => (List.map (fun x => bulk t x) xs).sum + 1
  | .struct fs, x => bulks fs x + 1
def bulks : (T : Tys) → T.den → Nat
  | .nil, _ => 0
  | .cons t ts, x => bulk t x.1 + bulks ts x.2
end
mutual
/-- all integers are such of their kind -/
def Rng : (T : Ty) → T.den → Prop
  | .int k, x => k.min ≤ x ∧ (show Int from x) ≤ k.max
  | .bool, _ => True
  | .str, _ => True
  | .slice t, xs => ∀ i x, nth (α := t.den) xs i = some x → Rng t x
  | .struct fs, x => Rngs fs x
def Rngs : (T : Tys) → T.den → Prop
  | .nil, _ => True
  | .cons t ts, x => Rng t x.1 ∧ Rngs ts x.2
end
section
variable {H : Type}
mutual
def dBulk : DataW H → Nat
  | .lit l => match l with
    | .string bytes => bytes.length + 1
    | _ => 1
  | .slice elems _ => dBulkAll elems + 1
  | .agg parts => dBulkAll parts + 1
  | _ => 1
def dBulkAll : List (DataW H) → Nat
  | [] => 0
  | d :: l => dBulk d + dBulkAll l
end
theorem dBulkAll_append (l m : List (DataW H)) : dBulkAll (l ++ m) = dBulkAll l + dBulkAll m := by
  induction l with
  | nil => simp [dBulkAll]
  | cons d l ih => simp only [List.cons_append, dBulkAll, ih]; omega
theorem dBulkAll_map {α : Type} (f : α → Nat) : ∀ (xs : List α) (ds : List (DataW H)), xs.length = ds.length → (∀ (i : Nat) (x : α) (d : DataW H), xs[i]? = some x → ds[i]? = some d → f x ≤ dBulk d) → (xs.map f).sum ≤ dBulkAll ds
  | [], ds, _, _ => by simp
  | x :: xs, [], h, _ => by simp at h
  | x :: xs, d :: ds, h, hf => by
    simp only [List.map_cons, List.sum_cons, dBulkAll]
    have h1 := hf 0 x d rfl rfl
    have h2 := dBulkAll_map f xs ds (by simpa using h) (fun i y e hy he => hf (i + 1) y e (by simpa using hy) (by simpa using he))
    omega
variable {enc : TypeId × Value → H} {P : Program} {w : World} {spare : Nat → Bool}
theorem TyOK.cellsOf : ∀ {T : Ty} {t : TypeId}, TyOK P t T → P.cellsOf t = T.cells := by
  intro T t h
  cases T <;> simp only [TyOK] at h <;> obtain ⟨⟨i, h1, h2, _⟩, _⟩ := h <;> simp [Program.cellsOf, h1, h2, Ty.cells]
theorem maxLen_le : maxLen ≤ 9223372036854775807 := by unfold maxLen; omega
theorem exists_list {α : Type} {p : Nat → α → Prop} : ∀ (n : Nat), (∀ i, i < n → ∃ x, p i x) → ∃ xs : List α, xs.length = n ∧ ∀ i x, xs[i]? = some x → p i x
  | 0, _ => ⟨[], rfl, fun i x h => by simp at h⟩
  | n + 1, h => by
    obtain ⟨xs, h1, h2⟩ := exists_list (p := fun i x => p (i + 1) x) n (fun i hi => h (i + 1) (by omega))
    obtain ⟨x, hx⟩ := h 0 (by omega)
    refine ⟨x :: xs, by simp [h1], fun i y hy => ?_⟩
    cases i with
    | zero => simp at hy; subst hy; exact hx
    | succ i => exact h2 i y (by simpa using hy)
theorem cells?_lies {b : Nat} {a : Addr} {n : Nat} {cs : List Value} (hn : 0 < n) (h : w.cells? 0 a n = some cs) : a.spot = none ∧ a.block < w.heap.size ∧ cs.length = n ∧ ∀ j v, cs[j]? = some v → w.cell? ⟨a.block, a.off + j, none⟩ = some v := by
  obtain ⟨_, hlen, hcell⟩ := World.cells?_some h
  obtain ⟨b, off, spot⟩ := a
  have g0 := hcell 0 hn
  obtain ⟨c0, hc0⟩ : ∃ c0, cs[0]? = some c0 := by
    cases cs with
    | nil => simp at hlen; omega
    | cons c _ => exact ⟨c, rfl⟩
  rw [hc0] at g0
  have hspot : spot = none := by simpa [Addr.add] using World.cell?_spot g0
  subst hspot
  refine ⟨rfl, ?_, hlen, fun j v hv => ?_⟩
  · have := World.block_lt_of_cell? w _ g0
    simpa [Addr.add] using this
  · have hj : j < n := by
      have := (List.getElem?_eq_some_iff.1 hv).1
      omega
    have := hcell j hj
    rw [hv, add_plain] at this
    exact this
/-- the parts of a struct -/
def partsOK (enc : TypeId × Value → H) (P : Program) (w : World) (spare : Nat → Bool) (n : Nat) (cs : List Value) : List Field → List (DataW H × List MemPlace) → Prop
  | [], [] => True
  | f :: fs, x :: xs => DataW.trod enc P w 0 spare true n f.type ((cs.drop f.offset).take (P.cellsOf f.type)) = some x ∧ partsOK enc P w spare n cs fs xs
  | _, _ => False
theorem partsOK_of {n : Nat} {cs : List Value} : ∀ (fs : List Field) (xs : List (DataW H × List MemPlace)), xs.length = fs.length → (∀ (i : Nat) (f : Field), fs[i]? = some f → DataW.trod enc P w 0 spare true n f.type ((cs.drop f.offset).take (P.cellsOf f.type)) = xs[i]?) → partsOK enc P w spare n cs fs xs
  | [], [], _, _ => trivial
  | f :: fs, x :: xs, hl, h => ⟨by simpa using h 0 f rfl, partsOK_of fs xs (by simpa using hl) (fun i f hf => by simpa using h (i + 1) f (by simpa using hf))⟩
  | [], _ :: _, hl, _ => by simp at hl
  | _ :: _, [], hl, _ => by simp at hl
mutual
/-- WHAT IS READ IS DATA. -/
theorem trod_data : ∀ (T : Ty) (t : TypeId) (fuel : Nat) (cs : List Value) (d : DataW H) (ps : List MemPlace), TyOK P t T → DataW.trod enc P w 0 spare true fuel t cs = some (d, ps) →
    ∃ x : T.den, DR w None T x cs ∧ bulk T x ≤ dBulk d ∧ Rng T x
  | .int k, t, fuel, cs, d, ps, hT, h => by
    simp only [TyOK] at hT
    obtain ⟨n, rfl, hx, hw⟩ := DataW.trod_int hT.2 h
    cases hx
    refine ⟨n, by simp only [DR], by simp only [bulk, dBulk]; omega, ?_⟩
    simp only [Lit.wf, Bool.and_eq_true, decide_eq_true_eq] at hw
    simp only [Rng]
    exact hw
  | .bool, t, fuel, cs, d, ps, hT, h => by
    simp only [TyOK] at hT
    obtain ⟨b, rfl, hx⟩ := DataW.trod_bool hT.2 h
    cases hx
    exact ⟨b, by simp only [DR], by simp only [bulk, dBulk]; omega, by simp only [Rng]⟩
  | .str, t, fuel, cs, d, ps, hT, h => by
    simp only [TyOK] at hT
    obtain ⟨s, rfl, hx, hs⟩ := DataW.trod_string hT.2 h
    cases hx
    refine ⟨s, ?_, ?_, by simp only [Rng]⟩
    · simp only [DR]
      exact ⟨trivial, Nat.le_trans hs maxLen_le⟩
    · simp only [bulk, dBulk]
      have : s.size = s.data.toList.length := by rw [Array.length_toList]; rfl
      omega
  | .slice T, t, fuel, cs, d, ps, hT, h => by
    simp only [TyOK] at hT
    obtain ⟨_, e, he, hTe, hpos, _⟩ := hT
    have hce := hTe.cellsOf
    rcases DataW.trod_slice he h with ⟨rfl, hx⟩ | ⟨a, len, cap, elems, rest, n, _, rfl, hx, _, hl, hm, hlen, hel, _, _⟩
    · cases hx
      refine ⟨([] : List T.den), ?_, ?_, ?_⟩
      · simp only [DR]
        exact ⟨none, 0, rfl, ⟨Nat.le_refl _, Nat.zero_le _⟩, .inl rfl⟩
      · simp [bulk, dBulk]
      · simp only [Rng]
        intro i x hi
        simp [nth] at hi
    · cases hx
      have hget : ∀ i, i < len → ∃ y : T.den, ∃ cs', w.cells? 0 (a.add (i * P.cellsOf e)) (P.cellsOf e) = some cs' ∧ DR w None T y cs' ∧ (∀ z, elems[i]? = some z → bulk T y ≤ dBulk z.1) ∧ Rng T y := fun i hi => by
        have h1 := hel i hi
        obtain ⟨z, hz⟩ : ∃ z, elems[i]? = some z := ⟨elems[i], List.getElem?_eq_getElem (by omega)⟩
        rw [hz] at h1
        obtain ⟨cs', h2, h3⟩ := Option.bind_eq_some_iff.1 h1
        obtain ⟨y, h4, h5, h6⟩ := trod_data T e n cs' z.1 z.2 hTe h3
        exact ⟨y, cs', h2, h4, fun z' hz' => (by rw [hz] at hz'; cases hz'; exact h5), h6⟩
      obtain ⟨xs, hxl, hxs⟩ := exists_list len hget
      refine ⟨xs, ?_, ?_, ?_⟩
      · simp only [DR]
        refine ⟨some a, cap, by rw [hxl], ⟨by rw [hxl]; exact hl, Nat.le_trans hm maxLen_le⟩, ?_⟩
        cases hlz : xs with
        | nil => exact .inl rfl
        | cons x0 xr =>
          rw [← hlz]
          right
          have h0 : 0 < len := by rw [← hxl, hlz]; simp
          obtain ⟨cs0, hc0, _⟩ := hxs 0 x0 (by rw [hlz]; rfl)
          obtain ⟨hsp, hb, _, _⟩ := cells?_lies (b := 0) (by rw [hce]; exact hpos) hc0
          obtain ⟨ab, ao, as⟩ := a
          have hs : as = none := by simpa [Addr.add] using hsp
          subst hs
          refine ⟨ab, ao, rfl, fun h => h, by simpa [Addr.add] using hb, fun i x hi => ?_⟩
          · obtain ⟨cs', h2, h4, _⟩ := hxs i x hi
            obtain ⟨_, _, _, h8⟩ := cells?_lies (b := 0) (by rw [hce]; exact hpos) h2
            refine ⟨cs', h4, fun j v hj => ?_⟩
            have := h8 j v hj
            rw [hce] at this
            rw [add_plain] at this
            exact this
      · simp only [bulk, dBulk]
        have := dBulkAll_map (fun x => bulk T x) xs (elems.map (·.1)) (by simp [hxl, hlen]) (fun i x d hx hd => by
          obtain ⟨_, _, _, h5, _⟩ := hxs i x hx
          rw [List.getElem?_map] at hd
          cases hz : elems[i]? with
          | none => rw [hz] at hd; cases hd
          | some z => rw [hz] at hd; simp at hd; subst hd; exact h5 z hz)
        omega
      · simp only [Rng]
        intro i x hi
        obtain ⟨_, _, _, _, h6⟩ := hxs i x hi
        exact h6
  | .struct fs, t, fuel, cs, d, ps, hT, h => by
    have hcl := hT.cellsOf
    simp only [TyOK] at hT
    obtain ⟨_, fields, hf, hTs⟩ := hT
    obtain ⟨xs, n, _, hx, hlen, hxl, hparts⟩ := DataW.trod_struct hf h
    cases hx
    rw [hcl] at hlen
    obtain ⟨x, h1, h2, h3⟩ := trod_parts fs fields.toList 0 n cs xs hTs.1 (partsOK_of _ _ (by simpa using hxl) (fun i f hi => hparts i f (by simpa using hi)))
      (by simpa [Ty.cells] using hlen)
    refine ⟨x, ?_, ?_, ?_⟩
    · simp only [DR]; simpa using h1
    · simp only [bulk, dBulk]; omega
    · simp only [Rng]; exact h3
theorem trod_parts : ∀ (T : Tys) (fields : List Field) (off : Nat) (n : Nat) (cs : List Value) (xs : List (DataW H × List MemPlace)), TysOK P fields off T → partsOK enc P w spare n cs fields xs → cs.length = off + T.cells →
    ∃ x : T.den, DRs w None T x (cs.drop off) ∧ bulks T x ≤ dBulkAll (xs.map (·.1)) ∧ Rngs T x
  | .nil, fields, off, n, cs, xs, hT, h, hl => by
    refine ⟨(), ?_, by simp [bulks], by simp only [Rngs]⟩
    simp only [DRs]
    simp only [Tys.cells] at hl
    exact List.drop_eq_nil_of_le (by omega)
  | .cons t ts, [], off, n, cs, xs, hT, h, hl => by simp only [TysOK] at hT
  | .cons t ts, f :: fields, off, n, cs, xs, hT, h, hl => by
    simp only [TysOK] at hT
    obtain ⟨ho, hpos, hTf, hTs⟩ := hT
    cases xs with
    | nil => simp only [partsOK] at h
    | cons z xs =>
      simp only [partsOK] at h
      obtain ⟨h1, h2⟩ := h
      simp only [Tys.cells] at hl
      obtain ⟨x, g1, g2, g3⟩ := trod_data t f.type n _ z.1 z.2 hTf h1
      obtain ⟨y, k1, k2, k3⟩ := trod_parts ts fields (off + t.cells) n cs xs hTs h2 (by omega)
      refine ⟨(x, y), ?_, ?_, ?_⟩
      · simp only [DRs]
        refine ⟨(cs.drop off).take t.cells, cs.drop (off + t.cells), ?_, ?_, k1⟩
        · rw [← List.drop_drop, List.take_append_drop]
        · rw [ho, hTf.cellsOf] at g1; exact g1
      · simp only [bulks, List.map_cons, dBulkAll]; omega
      · simp only [Rngs]; exact ⟨g3, k3⟩
end
end
theorem castL_self (T : Ty) (xs : List T.den) : castL T T xs = some xs := by simp [castL]
mutual
theorem implode_explode : ∀ (T : Ty) (x : T.den), implode T (explode T x) = some x
  | .int k, x => by simp only [implode, explode, asInt?]; exact if_pos trivial
  | .bool, x => rfl
  | .str, x => rfl
  | .slice t, x => by simp only [implode, explode, asSl?]; exact castL_self t x
  | .struct fs, x => by simp only [implode, explode, asAgg?]; exact implodes_explodes fs x
theorem implodes_explodes : ∀ (T : Tys) (x : T.den), implodes T (explodes T x) = some x
  | .nil, x => rfl
  | .cons t ts, x => by
    simp only [implodes, explodes, implode_explode t x.1, implodes_explodes ts x.2, Option.bind_some]
    rfl
end
theorem bulk_pos : ∀ (T : Ty) (x : T.den), 1 ≤ bulk T x
  | .int _, _ => by simp only [bulk]; omega
  | .bool, _ => by simp only [bulk]; omega
  | .str, _ => by simp only [bulk]; omega
  | .slice _, _ => by simp only [bulk]; omega
  | .struct _, _ => by simp only [bulk]; omega
theorem sum_ge {α : Type} (f : α → Nat) : ∀ (xs : List α), (∀ x, 1 ≤ f x) → xs.length ≤ (xs.map f).sum
  | [], _ => by simp
  | x :: xs, h => by
    have := h x
    have := sum_ge f xs h
    simp only [List.map_cons, List.sum_cons, List.length_cons]
    omega
theorem len_bulk (T : Ty) (xs : List T.den) {n : Nat} (h : bulk (.slice T) xs ≤ n) : xs.length ≤ n := by
  simp only [bulk] at h
  have := sum_ge (fun x => bulk T x) xs (bulk_pos T)
  omega
end Go.Vm

/- Vm, part 27: from a function's contract to a statement's. Own work. -/
set_option linter.unusedVariables false
set_option linter.unusedSimpArgs false
set_option linter.unusedSectionVars false
namespace Go.Vm
variable [MonotC]
open Go.RowKit Go.ChangeShapes Go.WideShapes Go.ChangeAt
section
variable {H : Type} {enc : TypeId × Value → H} {P : Program}
theorem Keep.keptBut {w w' : World} (h : Keep None w w') (may : MemPlace → Prop) : w.keptBut w' may := by
  refine ⟨h.os, h.output, fun i hi => ?_⟩
  rw [h.block i hi (fun x => x)]
  exact (World.keptBut_refl w may).2.2 i hi
theorem Keep.sameAt {w w' : World} (h : Keep None w w') {p : MemPlace} (hp : p.block < w.heap.size) : w.sameAt w' p := by
  cases p with
  | cell b o =>
    show w'.cell? _ = w.cell? _
    have := h.block b hp (fun x => x)
    simp only [World.cell?, this]
  | map b => exact h.block b hp (fun x => x)
/-- types of the parameters -/
def ParsOK (P : Program) : List TypeId → Tys → Prop
  | [], .nil => True
  | t :: l, .cons T Ts => TyOK P t T ∧ ParsOK P l Ts
  | _, _ => False
def chkPars (P : Program) : List TypeId → Tys → Bool
  | [], .nil => true
  | t :: l, .cons T Ts => chkTy P t T && chkPars P l Ts
  | _, _ => false
theorem chkPars_ok : ∀ (l : List TypeId) (T : Tys), chkPars P l T = true → ParsOK P l T
  | [], .nil, _ => trivial
  | t :: l, .cons T Ts, h => by
    simp only [chkPars, Bool.and_eq_true] at h
    exact ⟨chkTy_ok _ _ h.1, chkPars_ok l Ts h.2⟩
  | [], .cons _ _, h => by cases h
  | _ :: _, .nil, h => by cases h
theorem okWide_agg {T : Ty} {t : TypeId} {w : World} {b : Nat} {v : Value} (hT : TyOK P t T) (h : Value.okWide P w .any b t v) : aggV v = T.isAgg := by
  cases T with
  | int k => simp only [TyOK] at hT; obtain ⟨n, rfl⟩ := okWide_int hT.2 h; rfl
  | bool => simp only [TyOK] at hT; obtain ⟨n, rfl⟩ := okWide_bool hT.2 h; rfl
  | str => simp only [TyOK] at hT; obtain ⟨n, rfl⟩ := okWide_string hT.2 h; rfl
  | slice T => simp only [TyOK] at hT; obtain ⟨e, he, _⟩ := hT.2; obtain ⟨a, l, c, rfl⟩ := okWide_slice he h; rfl
  | struct fs => simp only [TyOK] at hT; obtain ⟨e, he, _⟩ := hT.2; obtain ⟨a, rfl, _⟩ := okWide_struct he h; rfl
/-- THE ARGUMENTS ARE DATA. -/
theorem args_data {w : World} {b : Nat} {ob : Nat → OB} {μ : Nat → Value} {spare : Nat → Bool} : ∀ (ts : List TypeId) (T : Tys) (vs : List Value) (ds : List (DataW H)) (ps : List MemPlace), ParsOK P ts T → DataW.TrodAll enc P w 0 spare true ts vs ds ps →
    (∀ (j : Nat) t v, ts[j]? = some t → vs[j]? = some v → Value.okWide P w .any b t v) →
    ∃ x : T.den, TRs w (fun _ => False) ob μ (explodes T x) vs ∧ bulks T x ≤ dBulkAll ds ∧ Rngs T x
  | [], .nil, vs, ds, ps, hT, h, hv => by
    obtain ⟨rfl, rfl, rfl⟩ := trodAll_nil h
    exact ⟨(), by simp only [explodes, TRs], by simp [bulks], by simp only [Rngs]⟩
  | t :: ts, .cons T Ts, vs, ds, ps, hT, h, hv => by
    obtain ⟨v, vs1, d, ds1, a, c, rfl, rfl, rfl, ⟨fuel, h1⟩, h2⟩ := trodAll_cons h
    simp only [ParsOK] at hT
    obtain ⟨x, g1, g2, g3⟩ := trod_data T t fuel _ d a hT.1 h1
    obtain ⟨y, k1, k2, k3⟩ := args_data ts Ts vs1 ds1 c hT.2 h2 (fun j t v ht hv' => hv (j + 1) t v (by simpa using ht) (by simpa using hv'))
    refine ⟨(x, y), ?_, ?_, ?_⟩
    · simp only [explodes, TRs]
      refine ⟨v, vs1, rfl, .inr ⟨explode_sound _ _ _ g1, ?_⟩, k1⟩
      rw [explode_agg]
      exact okWide_agg hT.1 (hv 0 t v rfl rfl)
    · simp only [bulks, dBulkAll]; omega
    · simp only [Rngs]; exact ⟨g3, k3⟩
  | [], .cons _ _, vs, ds, ps, hT, h, hv => by simp only [ParsOK] at hT
  | _ :: _, .nil, vs, ds, ps, hT, h, hv => by simp only [ParsOK] at hT
theorem all_stays {T0 : TypeId → Prop} {w w' : World} (K : Kids P T0) (hsz : ∀ {t e : TypeId}, T0 t → P.underlying t = some (.slice e) → 0 < P.cellsOf e) (hk : Keep None w w') (sp : Nat → Bool) :
    ∀ (ts : List TypeId) (vs : List Value) (ds : List (DataW H)) (ps : List MemPlace), (∀ t ∈ ts, T0 t) → DataW.TrodAll enc P w 0 (fun _ => true) true ts vs ds ps → (∀ p ∈ ps, p.block < w.heap.size) → (∀ p ∈ ps, sp p.block = true) →
      DataW.TrodAll enc P w' 0 sp true ts vs ds ps
  | [], vs, ds, ps, _, h, _, _ => by
    obtain ⟨rfl, rfl, rfl⟩ := trodAll_nil h
    rfl
  | t :: ts, vs, ds, ps, ht, h, hlt, hsp => by
    obtain ⟨v, vs1, d, ds1, a, c, rfl, rfl, rfl, ⟨fuel, h1⟩, h2⟩ := trodAll_cons h
    refine ⟨a, c, ⟨fuel, DataW.trod_stays K hsz (fun h => by cases h) (ht t (by simp)) h1 (fun p hp => hk.sameAt (hlt p (by simp [hp]))) (fun p hp => hsp p (by simp [hp]))⟩,
      all_stays K hsz hk sp ts vs1 ds1 c (fun t h => ht t (by simp [h])) h2 (fun p hp => hlt p (by simp [hp])) (fun p hp => hsp p (by simp [hp])), rfl⟩
/-- types of plain data: what a reading goes on to is such, too -/
def PlainT (P : Program) (t : TypeId) : Prop := ∃ T, TyOK P t T
theorem TysOK.cells_sum : ∀ {T : Tys} {l : List Field} {off : Nat}, TysOK P l off T → (l.map fun f => P.cellsOf f.type).sum = T.cells ∧ (∀ f ∈ l, PlainT P f.type) ∧ ∀ (j : Nat) (f : Field), l[j]? = some f → f.offset = off + ((l.take j).map fun f => P.cellsOf f.type).sum
  | .nil, [], off, h => ⟨rfl, fun f hf => (by cases hf), fun j f hf => by simp at hf⟩
  | .nil, _ :: _, off, h => by simp only [TysOK] at h
  | .cons t ts, [], off, h => by simp only [TysOK] at h
  | .cons t ts, f :: l, off, h => by
    simp only [TysOK] at h
    obtain ⟨h1, h2, h3, h4⟩ := h
    obtain ⟨k1, k2, k3⟩ := h4.cells_sum
    have hc := h3.cellsOf
    refine ⟨by simp only [List.map_cons, List.sum_cons, Tys.cells, k1, hc], fun g hg => ?_, fun j g hg => ?_⟩
    · rcases List.mem_cons.1 hg with rfl | hg
      · exact ⟨t, h3⟩
      · exact k2 g hg
    · cases j with
      | zero => simp at hg; subst hg; simp [h1]
      | succ j =>
        simp only [List.getElem?_cons_succ] at hg
        rw [k3 j g hg]
        simp only [List.take_succ_cons, List.map_cons, List.sum_cons, hc]
        omega
theorem plain_kids : Kids P (PlainT P) := by
  refine ⟨fun ht hu => ?_, fun ht hu => ?_, fun ht hu => ?_, fun ht hu => ?_, fun ht hu => ?_⟩
  · obtain ⟨T, h⟩ := ht; cases T <;> simp only [TyOK] at h <;> (first | (rw [h.2] at hu; cases hu) | (obtain ⟨_, e, he, _⟩ := h; rw [he] at hu; cases hu))
  · obtain ⟨T, h⟩ := ht; cases T <;> simp only [TyOK] at h <;> (first | (rw [h.2] at hu; cases hu) | (obtain ⟨_, e, he, h⟩ := h; rw [he] at hu; cases hu; exact ⟨_, h.1⟩) | (obtain ⟨_, e, he, _⟩ := h; rw [he] at hu; cases hu))
  · obtain ⟨T, h⟩ := ht; cases T <;> simp only [TyOK] at h <;> (first | (rw [h.2] at hu; cases hu) | (obtain ⟨_, e, he, _⟩ := h; rw [he] at hu; cases hu))
  · obtain ⟨T, h⟩ := ht
    have hcl := h.cellsOf
    cases T <;> simp only [TyOK] at h
    · rw [h.2] at hu; cases hu
    · rw [h.2] at hu; cases hu
    · rw [h.2] at hu; cases hu
    · obtain ⟨_, e, he, _⟩ := h; rw [he] at hu; cases hu
    · obtain ⟨_, fs, he, h⟩ := h
      rw [he] at hu
      cases hu
      obtain ⟨k1, k2, k3⟩ := h.1.cells_sum
      exact ⟨k2, by rw [hcl, k1]; rfl, fun j f hf => by rw [k3 j f hf, Nat.zero_add]⟩
  · obtain ⟨T, h⟩ := ht; cases T <;> simp only [TyOK] at h <;> (first | (rw [h.2] at hu; cases hu) | (obtain ⟨_, e, he, _⟩ := h; rw [he] at hu; cases hu))
theorem plain_sz {t e : TypeId} (ht : PlainT P t) (hu : P.underlying t = some (.slice e)) : 0 < P.cellsOf e := by
  obtain ⟨T, h⟩ := ht
  cases T <;> simp only [TyOK] at h
  · rw [h.2] at hu; cases hu
  · rw [h.2] at hu; cases hu
  · rw [h.2] at hu; cases hu
  · obtain ⟨_, e', he, h⟩ := h
    rw [he] at hu
    cases hu
    rw [h.1.cellsOf]
    exact h.2.1
  · obtain ⟨_, e, he, _⟩ := h; rw [he] at hu; cases hu
theorem ParsOK.plain : ∀ {l : List TypeId} {T : Tys}, ParsOK P l T → ∀ t ∈ l, PlainT P t
  | [], .nil, _, t, h => by cases h
  | u :: l, .cons T Ts, h, t, ht => by
    simp only [ParsOK] at h
    rcases List.mem_cons.1 ht with rfl | ht
    · exact ⟨T, h.1⟩
    · exact h.2.plain t ht
theorem VR.bool' {w : World} {A : Nat → Prop} {ob : Nat → OB} {μ : Nat → Value} {b : Bool} {v : Value} (h : VR w A ob μ (.bool b) v) : v = .bool b := by
  rcases h with h | ⟨h, h2⟩
  · cases h
  · simp only [CR] at h
    cases v <;> simp_all [aggV, PV.isAgg, Value.cells]
/-- what is right of a run that leaves all arguments as they are; blocks that it made may be of any kind -/
theorem post_old {f : Func} {s : ChangeSpec} {apart fresh handsOn again : Bool} {W W' : World} {args : Array Value} {v : Value} {ds gs : List (DataW H)} {before pa pv : List MemPlace} (hW : DataW.Whole enc P f.params.toList s.vars apart W args.toList ds gs before)
    (hres : ∀ (b : Nat) (sp : Nat → Bool) (hd : Bool), DataW.TrodAll enc P W' b sp hd f.resultTypes.toList (v.resultList f.resultTypes.size) (s.fn H (ds ++ gs)).results [])
    (hargs : ∀ sp : Nat → Bool, (∀ p ∈ before, sp p.block = true) → DataW.TrodAll enc P W' 0 sp true f.params.toList args.toList (s.fn H (ds ++ gs)).args pa)
    (hvars : ∀ sp : Nat → Bool, (∀ p ∈ before, sp p.block = true) → DataW.TrodVars enc P W' sp s.vars (s.fn H (ds ++ gs)).vars pv) (hps : before = pa ++ pv) (hk : W.keptBut W' (· ∈ before))
    (hfz : ∀ a : Addr, a.block < W.heap.size → W'.frozen? a = W.frozen? a)
    (hok : ∀ (j : Nat) (t : TypeId) (r : Value), f.resultTypes[j]? = some t → (v.resultList f.resultTypes.size)[j]? = some r → Value.okWide P W' .any 0 t r) : s.post enc P f apart fresh handsOn again W args v W' := by
  have hlt := fun p hp => hW.lt p hp
  refine ⟨ds, gs, before, [], pa, pv, hW, hres _ _ _, hargs _ (fun p hp => by simpa using hlt p hp), hvars _ (fun p hp => by simpa using hlt p hp), World.keptBut_mono (fun p hp => ⟨hp, by rw [hps, List.mem_append] at hp; exact .inr hp⟩) hk, fun _ => ?_⟩
  obtain ⟨_, _, _, _, _, hz, hn⟩ := hW
  refine ⟨hok, _, _, ([] ++ pa) ++ pv, ⟨[] ++ pa, pv, trodAll_append (hargs _ (fun _ _ => rfl)) (hres _ _ _), hvars _ (fun _ _ => rfl), rfl, fun b off hp => ?_, fun ha => ?_⟩, fun p hp _ => ?_⟩
  · have hb : MemPlace.cell b off ∈ before := by rw [hps]; simpa using hp
    rw [hfz _ (hlt _ hb)]
    exact hz b off hb
  · have := hn ha
    rw [hps] at this
    simpa using this
  · rw [hps]; simpa using hp
/-- THE CONTRACT OF A LAW: A FUNCTION FROM DATA TO true. -/
theorem law_contract {f : FuncId} {F : Func} {s : ChangeSpec} {T : Tys} {g : T.den → Option (Tys.cons .bool .nil).den} {B : Nat} {tb : TypeId} {ts : List TypeId}
    (hS : SoundF P f (FSem.pfn T (.cons .bool .nil) g)) (hts : F.params.toList = ts) (hT : chkPars P ts T = true)
    (hr : F.resultTypes = #[tb]) (hb : P.underlying tb = some .bool) (hv : s.vars = [])
    (hg : ∀ x, bulks T x ≤ B → Rngs T x → g x = some (true, ()))
    (apart fresh handsOn again : Bool) (W : World) (base : Nat) (args : Array Value) (ds gs : List (DataW H)) (before : List MemPlace)
    (hfn : ∀ ds : List (DataW H), ds.length = ts.length → s.fn H ds = { results := [.lit (.bool true)], args := ds })
    (hval : ∀ (j : Nat) t v, F.params[j]? = some t → args[j]? = some v → Value.okWide P W .any base t v)
    (hW : DataW.Whole enc P F.params.toList s.vars apart W args.toList ds gs before)
    (hk : dBulkAll ds ≤ B) (hlay : ∀ p ∈ theLay, LaidAt W p) :
    Calls P f args W fun e W' => ∃ v, e = .returned v ∧ s.post enc P F apart fresh handsOn again W args v W' := by
  have hW' := hW
  obtain ⟨p, q, hA, hV, rfl, hfz, hnd⟩ := hW
  rw [hv] at hV
  obtain ⟨rfl, rfl⟩ := trodVars_none hV
  rw [hts] at hA
  obtain ⟨x, hx1, hx2, hx3⟩ := args_data (b := base) (ob := obs []) (μ := fun _ => undef) ts T args.toList ds p (chkPars_ok ts T hT) hA (fun j t v ht hv => hval j t v (by rw [← Array.getElem?_toList, hts]; exact ht) (by simpa using hv))
  have hgx := hg x (Nat.le_trans hx2 hk) hx3
  have hlen : ds.length = ts.length := by
    have : ∀ (ts : List TypeId) (vs : List Value) (ds : List (DataW H)) (ps : List MemPlace), DataW.TrodAll enc P W 0 (fun _ => true) true ts vs ds ps → ds.length = ts.length := by
      intro ts
      induction ts with
      | nil => intro vs ds ps h; obtain ⟨_, rfl, _⟩ := trodAll_nil h; rfl
      | cons t ts ih => intro vs ds ps h; obtain ⟨v, vs1, d, ds1, a, c, rfl, rfl, rfl, _, h2⟩ := trodAll_cons h; simp [ih _ _ _ h2]
    exact this _ _ _ _ hA
  have hd : ∀ i, obs [] i = .dead := fun i => rfl
  have hold : ∀ b, own (obs []) (fun _ => undef) b → False := fun b hb => by obtain ⟨i, h, _⟩ := hb; rw [hd] at h; cases h
  have hO : Objs W (fun _ => False) (obs []) (fun _ => undef) := ⟨fun o => by unfold OR; rw [hd]; trivial, fun o _ _ h => (by rw [hd] at h; cases h), fun b hb => hold b hb, fun b hb => hb.elim, fun p hp => ⟨hlay p hp, fun h => h.elim⟩⟩
  obtain ⟨_, hc⟩ := hS (explodes T x) [] (fun v l => match v with | .bool b => some b | _ => none) true (by
    simp only [FSem.pfn, implodes_explodes, hgx, Option.bind_some, resPV, explode]; rfl)
  have hc := hc W (fun _ => False) (fun _ => undef) args.toList hO hx1
  rw [show args.toList.toArray = args from by simp] at hc
  refine hc.mono ?_
  rintro e w' ⟨v, res, objs', μ', rfl, hK, hpost⟩
  refine ⟨v, rfl, ?_⟩
  have hres : v = .bool true := by
    have h1 := hpost.res
    split at hK
    · cases hK
      exact h1.bool'
    · cases hK
  subst hres
  have hkeep : Keep None W w' := hpost.keep.mono (fun b _ hb => (hold b hb).elim)
  have hall := (chkPars_ok ts T hT).plain
  have hlt : ∀ p' ∈ p, p'.block < W.heap.size := fun p' hp => hW'.lt p' (by simpa using hp)
  have hfn' := hfn (ds ++ []) (by simpa using hlen)
  refine post_old (pa := p) (pv := []) hW' (fun _ _ _ => ?_) (fun sp hsp => ?_) (fun sp _ => ?_) rfl (hkeep.keptBut _) (fun a ha => hkeep.froz a ha (fun h => h)) ?_
  · rw [hfn', hr]
    exact trodAll_cons_mk (shut_bool hb _) trodAll_mk0
  · rw [hfn', hts]
    simp only [List.append_nil]
    exact all_stays plain_kids (fun hl h => plain_sz hl h) hkeep sp ts args.toList ds p hall hA hlt (fun p' hp => hsp p' (by simpa using hp))
  · rw [hfn', hv]
    rfl
  · exact ok_one hr rfl (okWide_bool_mk hb _)
end
end Go.Vm

/- Vm, part 28: functions whose contract is known otherwise. Own work. -/
set_option linter.unusedVariables false
set_option linter.unusedSimpArgs false
set_option linter.unusedSectionVars false
namespace Go.Vm
variable [MonotC]
open Go.RowKit
section
variable {P : Program}
/-- A FUNCTION WITH A CONTRACT OF ITS OWN. -/
theorem leaf_soundL {f : FuncId} {T Rs : Tys} {g : T.den → Option Rs.den} (hen : Enters P f)
    (h : ∀ (x : T.den) (y : Rs.den), WFs T x → g x = some y → ∀ (w : World) (A : Nat → Prop) (μ : Nat → Value) (vals : List Value), TRs w A (obs []) μ (explodes T x) vals → (∀ p ∈ theLay, LaidAt w p) →
      Calls P f vals.toArray w fun e w' => ∃ v, e = .returned v ∧ Keep None w w' ∧ VR w' A (obs []) μ (resPV Rs y) v) : SoundF P f (FSem.pfn T Rs g) := by
  intro ρ args objs K r hr
  cases objs with
  | cons b l => simp only [FSem.pfn, reduceCtorEq] at hr
  | nil =>
    simp only [FSem.pfn] at hr
    split at hr
    · rename_i x hx
      obtain ⟨y, hy, hK⟩ := Option.bind_eq_some_iff.1 hr
      refine ⟨hen, fun w A μ vals hO hargs => ?_⟩
      have hd : ∀ i, obs [] i = .dead := fun i => rfl
      have hold : ∀ b, own (obs []) μ b → False := fun b hb => by obtain ⟨i, h, _⟩ := hb; rw [hd] at h; cases h
      refine (h x y (implodes_wf T args x vals hx hargs) hy w A μ vals (implodes_TRs T args x vals hx hargs) (fun p hp => (hO.lay p hp).1)).mono ?_
      rintro e w' ⟨v, rfl, hk, hv⟩
      refine ⟨v, _, [], μ, rfl, hK, ⟨Nat.le_refl _, hk.mono (fun _ _ h => h.elim), ⟨fun o => by unfold OR; rw [hd]; trivial, fun o _ _ h => (by rw [hd] at h; cases h), fun b hb => (hold b hb).elim, fun b hb => ?_, lay_keep (A' := fun b => A b ∨ own (obs []) μ b) hO.lay hk (fun b _ hb => hb.elim id (fun h => (hold b h).elim)) (fun _ h => h.elim)⟩, ?_, fun b hb => (hold b hb).elim, fun i hi => by simp at hi⟩⟩
      · rcases hb with hb | hb
        · exact Nat.lt_of_lt_of_le (hO.old b hb) hk.size
        · exact (hold b hb).elim
      · exact VR.later (Keep.refl None w') (fun b _ hb => hb.elim id (fun h => (hold b h).elim)) (fun _ h => h.elim) (fun o _ => Later.refl _ _ o) hv
    · cases hr
theorem leaf_sound {f : FuncId} {T Rs : Tys} {g : T.den → Option Rs.den} (hen : Enters P f)
    (h : ∀ (x : T.den) (y : Rs.den), WFs T x → g x = some y → ∀ (w : World) (A : Nat → Prop) (μ : Nat → Value) (vals : List Value), TRs w A (obs []) μ (explodes T x) vals →
      Calls P f vals.toArray w fun e w' => ∃ v, e = .returned v ∧ Keep None w w' ∧ VR w' A (obs []) μ (resPV Rs y) v) : SoundF P f (FSem.pfn T Rs g) :=
  leaf_soundL hen (fun x y h1 h2 w A μ vals h3 _ => h x y h1 h2 w A μ vals h3)
/-- .. from data to data -/
theorem pfn_fn {f : FuncId} {T Rs : Tys} {g : T.den → Rs.den} (h : SoundF P f (FSem.pfn T Rs fun x => some (g x))) : SoundF P f (FSem.fn T Rs g) := by
  intro ρ args objs K r hr
  exact h args objs K r hr
end
end Go.Vm

/- Vm, part 30: slices.Clone. Own work. -/
set_option linter.unusedVariables false
set_option linter.unusedSimpArgs false
set_option linter.unusedSectionVars false
namespace Go.Vm
variable [MonotC]
open Go.RowKit
variable {P : Program}
/-- two halves of a function -/
theorem pfn_or {f : FuncId} {T Rs : Tys} {g g1 g2 : T.den → Option Rs.den} (h1 : SoundF P f (FSem.pfn T Rs g1)) (h2 : SoundF P f (FSem.pfn T Rs g2)) (h : ∀ x y, g x = some y → g1 x = some y ∨ g2 x = some y) : SoundF P f (FSem.pfn T Rs g) := by
  intro ρ args objs K r hr
  cases objs with
  | cons b l => simp only [FSem.pfn, reduceCtorEq] at hr
  | nil =>
    simp only [FSem.pfn] at hr
    split at hr
    · rename_i x hx
      obtain ⟨y, hy, hK⟩ := Option.bind_eq_some_iff.1 hr
      rcases h x y hy with h | h
      · exact h1 args [] K r (by simp only [FSem.pfn, hx, h, Option.bind_some]; exact hK)
      · exact h2 args [] K r (by simp only [FSem.pfn, hx, h, Option.bind_some]; exact hK)
    · cases hr
/-- slices.Clone: what is there, and the nil slice or an empty one -/
theorem clone_sound {f : FuncId} {T : Ty} {g1 : (Tys.cons (.slice T) .nil).den → Option (Tys.cons (.slice T) .nil).den} (h1 : SoundF P f (FSem.pfn (.cons (.slice T) .nil) (.cons (.slice T) .nil) g1)) (hen : Enters P f)
    (hg1 : ∀ xs : List T.den, xs ≠ [] → xs.length ≤ 4294967296 → g1 (xs, ()) = some (xs, ()))
    (h0 : ∀ (a : Option Addr) (c : Nat) (w : World), Calls P f #[.slice a 0 c] w fun e w' => ∃ a' c', e = .returned (.slice a' 0 c') ∧ c' ≤ 9223372036854775807 ∧ Keep None w w') :
    SoundF P f (FSem.pfn (.cons (.slice T) .nil) (.cons (.slice T) .nil) fun x => if List.length x.1 ≤ 4294967296 then some (x.1, ()) else none) := by
  have h2 : SoundF P f (FSem.pfn (.cons (.slice T) .nil) (.cons (.slice T) .nil) fun x => match (show List T.den from x.1) with | [] => some (([] : List T.den), ()) | _ :: _ => none) := by
    refine leaf_sound hen (fun x y hwf hy w A μ vals hv => ?_)
    obtain ⟨xs, ⟨⟩⟩ := x
    cases xs with
    | nil =>
      cases hy
      simp only [explodes, explode, TRs] at hv
      obtain ⟨v, rest, rfl, hv, rfl⟩ := hv
      have hd := VR.sl (ob := obs []) (μ := μ) hv
      simp only [DR] at hd
      obtain ⟨a, c, e, _, _⟩ := hd
      simp only [List.cons.injEq, and_true] at e
      subst e
      refine (h0 a c w).mono ?_
      rintro e w' ⟨a', c', rfl, hc', hk⟩
      refine ⟨_, rfl, hk, ?_⟩
      refine VR.mk_sl (T := T) (xs := ([] : List T.den)) ?_
      simp only [DR]
      exact ⟨a', c', rfl, ⟨Nat.zero_le _, hc'⟩, .inl rfl⟩
    | cons x xs => cases hy
  have h3 : ∀ (x : (Tys.cons (.slice T) .nil).den) (y : (Tys.cons (.slice T) .nil).den), (if List.length x.1 ≤ 4294967296 then some (x.1, ()) else none) = some y → g1 x = some y ∨ (match (show List T.den from x.1) with | [] => some (([] : List T.den), ()) | _ :: _ => none) = some y := by
    rintro ⟨xs, ⟨⟩⟩ y hy
    split at hy
    · rename_i hl
      cases hy
      cases xs with
      | nil => exact .inr rfl
      | cons z xs => exact .inl (hg1 _ (by simp) hl)
    · cases hy
  intro ρ args objs K r hr
  exact pfn_or h1 h2 h3 args objs K r hr
end Go.Vm

/- Vm, part 29: what loops come to. Own work. -/
set_option linter.unusedVariables false
namespace Go.Vm
section
variable {σ τ α β : Type}
/-- what a loop over a list comes to, from place j on -/
def scan (body : Nat → α → β → β ⊕ τ) (fin : β → τ) : List α → Nat → β → τ
  | [], _, b => fin b
  | x :: l, j, b => match body j x b with
    | .inl b' => scan body fin l (j + 1) b'
    | .inr t => t
/-- A LOOP OVER A LIST. -/
theorem iter_scan {f : σ → Option (σ ⊕ τ)} (xs : List α) (mk : Nat → β → σ) (body : Nat → α → β → β ⊕ τ) (fin : β → τ)
    (h1 : ∀ (j : Nat) (x : α) (b : β), xs[j]? = some x → f (mk j b) = some (match body j x b with | .inl b' => .inl (mk (j + 1) b') | .inr t => .inr t))
    (h2 : ∀ b, f (mk xs.length b) = some (.inr (fin b))) : ∀ (l : List α) (j k : Nat) (b : β), xs.drop j = l → j ≤ xs.length → l.length < k → iter k f (mk j b) = some (scan body fin l j b)
  | l, j, 0, b, hl, hj, hk => by omega
  | [], j, k + 1, b, hl, hj, hk => by
    have : j = xs.length := by
      have := List.drop_eq_nil_iff.1 hl
      omega
    subst this
    simp only [iter, h2, scan, Option.bind_some]
  | x :: l, j, k + 1, b, hl, hj, hk => by
    have hx : xs[j]? = some x := by rw [← List.head?_drop, hl]; rfl
    have hlt : j < xs.length := (List.getElem?_eq_some_iff.1 hx).1
    have hl' : xs.drop (j + 1) = l := by rw [← List.drop_drop, hl]; rfl
    simp only [iter, h1 j x b hx, scan, Option.bind_some]
    cases body j x b with
    | inl b' => exact iter_scan xs mk body fin h1 h2 l (j + 1) k b' hl' (by omega) (by simp at hk; omega)
    | inr t => rfl
theorem iter_scan0 {f : σ → Option (σ ⊕ τ)} {s0 : σ} {k : Nat} (xs : List α) (mk : Nat → β → σ) (body : Nat → α → β → β ⊕ τ) (fin : β → τ) (b : β) (hs : s0 = mk 0 b) (hk : xs.length < k)
    (h1 : ∀ (j : Nat) (x : α) (b : β), xs[j]? = some x → f (mk j b) = some (match body j x b with | .inl b' => .inl (mk (j + 1) b') | .inr t => .inr t))
    (h2 : ∀ b, f (mk xs.length b) = some (.inr (fin b))) : iter k f s0 = some (scan body fin xs 0 b) := by
  subst hs
  exact iter_scan xs mk body fin h1 h2 xs 0 k b rfl (by omega) hk
end
theorem rd_at {α : Type} {d : α} {xs : List α} {j : Nat} {x : α} (h : xs[j]? = some x) : rd d xs (j : Int) = x := by
  simp [rd, List.getD, h]
theorem inR_at {α : Type} {xs : List α} {j : Nat} {x : α} (h : xs[j]? = some x) : inR (j : Int) (xs.length : Int) = true := by
  have := (List.getElem?_eq_some_iff.1 h).1
  simp [inR]; omega
theorem lt_at {α : Type} {xs : List α} {j : Nat} {x : α} (h : xs[j]? = some x) : decide ((j : Int) < (xs.length : Int)) = true := by
  have := (List.getElem?_eq_some_iff.1 h).1
  simp; omega
theorem wrap_ok {n : Int} (h1 : -9223372036854775808 ≤ n) (h2 : n ≤ 9223372036854775807) : IntKind.i64.wrap n = n := by
  unfold IntKind.wrap
  have h3 : (2 : Int) ^ (64 - 1) = 9223372036854775808 := by decide
  have h4 : (2 : Int) ^ 64 = 18446744073709551616 := by decide
  simp only [IntKind.signed, IntKind.bits, Bool.true_and, h3, h4]
  split
  · rename_i h; have := of_decide_eq_true h; omega
  · rename_i h; have := of_decide_eq_false (Bool.eq_false_iff.2 h); omega
theorem wrap_succ {α : Type} {xs : List α} {j : Nat} {x : α} (h : xs[j]? = some x) (hl : xs.length ≤ 9223372036854775807) : IntKind.i64.wrap ((j : Int) + 1) = ((j + 1 : Nat) : Int) := by
  have := (List.getElem?_eq_some_iff.1 h).1
  rw [wrap_ok (by omega) (by omega)]; omega
section
variable {σ τ α β : Type}
/-- A LOOP OVER A LIST, with something that holds. -/
theorem iter_scanJ {f : σ → Option (σ ⊕ τ)} (xs : List α) (mk : Nat → β → σ) (body : Nat → α → β → β ⊕ τ) (fin : β → τ) (J : Nat → β → Prop)
    (hJ : ∀ (j : Nat) (x : α) (b b' : β), xs[j]? = some x → J j b → body j x b = .inl b' → J (j + 1) b')
    (h1 : ∀ (j : Nat) (x : α) (b : β), xs[j]? = some x → J j b → f (mk j b) = some (match body j x b with | .inl b' => .inl (mk (j + 1) b') | .inr t => .inr t))
    (h2 : ∀ b, J xs.length b → f (mk xs.length b) = some (.inr (fin b))) : ∀ (l : List α) (j k : Nat) (b : β), J j b → xs.drop j = l → j ≤ xs.length → l.length < k → iter k f (mk j b) = some (scan body fin l j b)
  | l, j, 0, b, hb, hl, hj, hk => by omega
  | [], j, k + 1, b, hb, hl, hj, hk => by
    have : j = xs.length := by
      have := List.drop_eq_nil_iff.1 hl
      omega
    subst this
    simp only [iter, h2 b hb, scan, Option.bind_some]
  | x :: l, j, k + 1, b, hb, hl, hj, hk => by
    have hx : xs[j]? = some x := by rw [← List.head?_drop, hl]; rfl
    have hlt : j < xs.length := (List.getElem?_eq_some_iff.1 hx).1
    have hl' : xs.drop (j + 1) = l := by rw [← List.drop_drop, hl]; rfl
    simp only [iter, h1 j x b hx hb, scan, Option.bind_some]
    cases hbo : body j x b with
    | inl b' => exact iter_scanJ xs mk body fin J hJ h1 h2 l (j + 1) k b' (hJ j x b b' hx hb hbo) hl' (by omega) (by simp at hk; omega)
    | inr t => rfl
theorem iter_scanI {f : σ → Option (σ ⊕ τ)} {s0 : σ} {k : Nat} (xs : List α) (mk : Nat → β → σ) (body : Nat → α → β → β ⊕ τ) (fin : β → τ) (J : Nat → β → Prop) (b : β) (hb : J 0 b) (hs : s0 = mk 0 b) (hk : xs.length < k)
    (hJ : ∀ (j : Nat) (x : α) (b b' : β), xs[j]? = some x → J j b → body j x b = .inl b' → J (j + 1) b')
    (h1 : ∀ (j : Nat) (x : α) (b : β), xs[j]? = some x → J j b → f (mk j b) = some (match body j x b with | .inl b' => .inl (mk (j + 1) b') | .inr t => .inr t))
    (h2 : ∀ b, J xs.length b → f (mk xs.length b) = some (.inr (fin b))) : iter k f s0 = some (scan body fin xs 0 b) := by
  subst hs
  exact iter_scanJ xs mk body fin J hJ h1 h2 xs 0 k b hb rfl (by omega) hk
end
section
variable {σ τ α β : Type}
theorem scan_fold (g : Nat → α → β → β) (fin : β → τ) : ∀ (l : List α) (j : Nat) (b : β), scan (fun j x b => .inl (g j x b)) fin l j b = fin ((l.zipIdx j).foldl (fun b p => g p.2 p.1 b) b)
  | [], j, b => rfl
  | x :: l, j, b => by simp only [scan, scan_fold g fin l (j + 1), List.zipIdx_cons, List.foldl_cons]
theorem scan_fold0 (g : α → β → β) (fin : β → τ) : ∀ (l : List α) (j : Nat) (b : β), scan (fun _ x b => .inl (g x b)) fin l j b = fin (l.foldl (fun b x => g x b) b)
  | [], j, b => rfl
  | x :: l, j, b => by simp only [scan, scan_fold0 g fin l (j + 1), List.foldl_cons]
theorem scan_find (p : α → Bool) (hit : Nat → τ) (miss : τ) : ∀ (l : List α) (j : Nat), scan (fun j x (_ : Unit) => bif p x then .inr (hit j) else .inl ()) (fun _ => miss) l j () = match l.findIdx? p with | some i => hit (j + i) | none => miss
  | [], j => rfl
  | x :: l, j => by
    simp only [scan, List.findIdx?_cons]
    cases p x
    · simp only [cond_false, Bool.false_eq_true, if_false]
      rw [scan_find p hit miss l (j + 1)]
      cases l.findIdx? p with
      | none => rfl
      | some i => simp only [Option.map_some]; congr 1; omega
    · simp
/-- A SEARCH. -/
theorem iter_find {f : σ → Option (σ ⊕ τ)} {s0 : σ} {k : Nat} (xs : List α) (mk : Nat → σ) (p : α → Bool) (hit : Nat → τ) (miss : τ) (hs : s0 = mk 0) (hk : xs.length < k)
    (h1 : ∀ (j : Nat) (x : α), xs[j]? = some x → f (mk j) = some (bif p x then .inr (hit j) else .inl (mk (j + 1))))
    (h2 : f (mk xs.length) = some (.inr miss)) : iter k f s0 = some (match xs.findIdx? p with | some i => hit i | none => miss) := by
  rw [iter_scan0 (β := Unit) xs (fun j _ => mk j) (fun j x _ => bif p x then .inr (hit j) else .inl ()) (fun _ => miss) () hs hk (fun j x b hx => by
    rw [h1 j x hx]; cases p x <;> rfl) (fun _ => h2), scan_find]
  simp only [Nat.zero_add]
/-- A LOOP THAT GOES TO THE END, with something that holds. -/
theorem iter_fold {f : σ → Option (σ ⊕ τ)} {s0 : σ} {k : Nat} (xs : List α) (mk : Nat → β → σ) (g : α → β → β) (fin : β → τ) (J : Nat → β → Prop) (b : β) (hb : J 0 b) (hs : s0 = mk 0 b) (hk : xs.length < k)
    (hJ : ∀ (j : Nat) (x : α) (b : β), xs[j]? = some x → J j b → J (j + 1) (g x b))
    (h1 : ∀ (j : Nat) (x : α) (b : β), xs[j]? = some x → J j b → f (mk j b) = some (.inl (mk (j + 1) (g x b))))
    (h2 : ∀ b, J xs.length b → f (mk xs.length b) = some (.inr (fin b))) : iter k f s0 = some (fin (xs.foldl (fun b x => g x b) b)) := by
  rw [iter_scanI xs mk (fun _ x b => .inl (g x b)) fin J b hb hs hk (fun j x b b' hx hj e => by cases e; exact hJ j x b hx hj) h1 h2, scan_fold0]
end
theorem prev_ix {α : Type} {xs : List α} {j : Nat} {o : α} (hl : xs.length ≤ 9223372036854775807) (h : 0 < j) (ho : xs[j - 1]? = some o) : IntKind.i64.wrap ((j : Int) - 1) = ((j - 1 : Nat) : Int) := by
  have := (List.getElem?_eq_some_iff.1 ho).1
  rw [wrap_ok (by omega) (by omega)]; omega
end Go.Vm

/- Vm, part 31: functions that write a row: sorts. Own work. -/
set_option linter.unusedVariables false
set_option linter.unusedSimpArgs false
set_option linter.unusedSectionVars false
namespace Go.Vm
variable [MonotC]
open Go.RowKit
section
variable {P : Program} {E : Env}
end
end Go.Vm
