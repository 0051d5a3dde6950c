/- Vm, part 24: what follows may be taken out of an evaluation. Own work. -/
import Derived.Test.YtfiembgemhonlaaVmTy
set_option linter.unusedVariables false
set_option linter.unusedSimpArgs false
namespace Go.Vm
section
variable {E : Env} {S : St} {o : Oper} {al : Nat} {ρ τ : Type} {f : ρ → Option τ}
theorem cond_bind (b : Bool) (x y : Option ρ) : (cond b x y).bind f = cond b (x.bind f) (y.bind f) := by cases b <;> rfl
theorem optK_bind {α : Type} (x : Option α) (K : α → Option ρ) : (optK x K).bind f = optK x (fun y => (K y).bind f) := by cases x <;> rfl
theorem evP_nat (K : PV → Option OB → Option ρ) : (evP E o S al K).bind f = evP E o S al (fun v b => (K v b).bind f) := by
  rw [evP_both, evP_both (K := fun v b => (K v b).bind f), optK_bind]
theorem addK_nat (d : Option Tmp) (v : PV) (b : Option OB) (K : St → Option ρ) : (addK S al d v b K).bind f = addK S al d v b (fun S => (K S).bind f) := by
  unfold addK
  cases b with
  | none => rfl
  | some b => simp only [cond_bind]; rfl
theorem prep_nat : ∀ (ms : List Mode) (vs : List PV) (S : St) (K : St → List PV → Option ρ), (prepArgs S ms vs K).bind f = prepArgs S ms vs (fun S l => (K S l).bind f)
  | [], vs, S, K => rfl
  | m :: ms, [], S, K => rfl
  | m :: ms, v :: vs, S, K => by
    simp only [prepArgs]
    split
    · rw [cond_bind, prep_nat ms vs]; rfl
    · rw [prep_nat ms vs]
theorem run_nat (sem : FSem) (args : List PV) (objs : List OB) (K : PV → List OB → Option ρ) : (sem.run args objs K).bind f = sem.run args objs (fun v l => (K v l).bind f) := by
  rw [sem.param, sem.param (K := fun v l => (K v l).bind f)]
  cases sem.run args objs (fun v l => some (v, l)) <;> rfl
theorem evCall_nat (g : Nat) (args : List PV) (K : St → PV → Option ρ) : (evCall E g args S K).bind f = evCall E g args S (fun S v => (K S v).bind f) := by
  unfold evCall
  rw [prep_nat]
  congr 1
  funext S1 l
  rw [optK_bind]
  congr 1
  funext as
  simp only [cond_bind, run_nat]
  rfl
theorem bound_nat (x : Option Operand) (d : Int) (K : Int → Option ρ) : (evP.boundK S x d K).bind f = evP.boundK S x d (fun n => (K n).bind f) := by
  unfold evP.boundK
  repeat' split
  all_goals first | rfl | (simp_all; done)
theorem evF_nat (K : St → Option ρ) : (evF E o S al K).bind f = evF E o S al (fun S => (K S).bind f) := by
  have hq : (evP E o S al fun v b => addK S al o.dst v b K).bind f = evP E o S al fun v b => addK S al o.dst v b (fun S => (K S).bind f) := by
    rw [evP_nat]; congr 1; funext v b; exact addK_nat _ _ _ _
  cases hop : o.op
  case store t x y =>
    simp only [evF, hop]
    repeat' split
    all_goals first | rfl | (rw [cond_bind]; rfl) | (rw [cond_bind, optK_bind]; simp only [cond_bind]; rfl)
  case slice t x lo hi mx =>
    simp only [evF, hop]
    split
    · split
      · rw [bound_nat]; congr 1; funext l; rw [bound_nat]; congr 1; funext h; rw [cond_bind]; rfl
      · rfl
    · exact hq
  case call c =>
    cases hc : c.callee with
    | value x =>
      simp only [evF, hop, hc]
      split
      · exact evCall_nat _ _ _
      · rfl
    | invoke r m => simp only [evF, hop, hc]; rfl
    | builtin b =>
      cases b
      case append =>
        simp only [evF, hop, hc]
        split
        · split
          · rw [optK_bind]
            congr 1
            funext ys
            split
            · rw [cond_bind, addK_nat]; rfl
            · split
              · rw [optK_bind]; congr 1; funext xs; rw [cond_bind]; rfl
              · rfl
            · rfl
          · rfl
        · rfl
      all_goals (simp only [evF, hop, hc]; exact hq)
  all_goals (simp only [evF, hop]; exact hq)
theorem wantK_nat (all : List Oper) (yes no : St → Option ρ) : (wantK all o S yes no).bind f = wantK all o S (fun S => (yes S).bind f) (fun S => (no S).bind f) := by
  unfold wantK
  split
  · rfl
  · rfl
  · split
    · simp only [cond_bind]
    · rfl
    · rfl
theorem evOps_nat (all : List Oper) : ∀ (l : List Oper) (S : St) (K : St → Option ρ), (evOps E all l S K).bind f = evOps E all l S (fun S => (K S).bind f)
  | [], S, K => rfl
  | o :: l, S, K => by
    simp only [evOps]
    rw [wantK_nat]
    congr 1
    · funext S1; rw [evF_nat]; congr 1; funext S2; exact evOps_nat all l S2 K
    · funext S1; exact evOps_nat all l _ K
theorem evQuiet_nat (K : PV → Option OB → Option ρ) : (evQuiet E o S al K).bind f = evQuiet E o S al (fun v b => (K v b).bind f) := by
  unfold evQuiet
  split
  · split
    · rw [optK_bind]
      congr 1
      funext as
      rw [cond_bind, run_nat]
      congr 2
      funext v l
      rw [cond_bind]
      congr 1
      split
      · rw [cond_bind]; rfl
      · rw [cond_bind]; rfl
      · rfl
    · exact evP_nat K
  · exact evP_nat K
theorem evDraw_nat (all : List Oper) (bf : List (List Nat)) (base : Nat) : ∀ (l : List Oper) (j : Nat) (S : St) (K : St → Option ρ), (evDraw E all bf base j l S K).bind f = evDraw E all bf base j l S (fun S => (K S).bind f)
  | [], j, S, K => rfl
  | o :: l, j, S, K => by
    simp only [evDraw]
    rw [wantK_nat]
    congr 1
    · funext S1
      rw [cond_bind, evQuiet_nat, evF_nat]
      congr 1
      · congr 1; funext v b; rw [cond_bind, evDraw_nat all bf base l]; rfl
      · congr 1; funext S2; rw [cond_bind, evDraw_nat all bf base l]; rfl
    · funext S1
      rw [cond_bind, cond_bind, evDraw_nat all bf base l]; rfl
theorem evRegion_nat (ops : List Oper) (draw : Bool) (K : St → Option ρ) : (evRegion E ops draw S K).bind f = evRegion E ops draw S (fun S => (K S).bind f) := by
  unfold evRegion
  rw [cond_bind, cond_bind, evDraw_nat, evOps_nat]
  rfl
mutual
theorem take_nat (f : ρ → Option τ) : ∀ (s : Sh) (v : PV) (K : s.den → List (Option Nat) → Option ρ), (Sh.take S s v K).bind f = Sh.take S s v (fun y l => (K y l).bind f)
  | .int k, v, K => by
    simp only [Sh.take]
    split
    · rw [cond_bind]; rfl
    · rfl
  | .bool, v, K => by
    simp only [Sh.take]
    split <;> rfl
  | .str, v, K => by
    simp only [Sh.take]
    split <;> rfl
  | .sl T, v, K => by
    simp only [Sh.take]
    split
    · rw [optK_bind]
    · rfl
    · rfl
  | .row T, v, K => by
    simp only [Sh.take]
    split
    · split
      · rw [optK_bind]
      · rfl
    · rfl
    · rfl
  | .box d s, v, K => by
    simp only [Sh.take]
    split
    · split
      · rw [cond_bind, take_nat f s]; rfl
      · rfl
    · rfl
  | .agg l, v, K => by
    simp only [Sh.take]
    split
    · exact takes_nat f l _ K
    · rfl
theorem takes_nat (f : ρ → Option τ) : ∀ (s : Shs) (v : List PV) (K : s.den → List (Option Nat) → Option ρ), (Shs.take S s v K).bind f = Shs.take S s v (fun y l => (K y l).bind f)
  | .nil, v, K => by
    simp only [Shs.take]
    split <;> rfl
  | .cons s t, v, K => by
    simp only [Shs.take]
    split
    · rw [take_nat f s]; congr 1; funext y a; exact takes_nat f t _ _
    · rfl
end
theorem obTake_nat (s : Sh) (b : OB) (K : s.den → List (Option Nat) → Option ρ) : (obTake S s b K).bind f = obTake S s b (fun y l => (K y l).bind f) := by
  cases s with
  | row T => simp only [obTake]; split; rw [optK_bind]; rfl
  | box d s =>
    simp only [obTake]
    split
    · rw [cond_bind]
      congr 1
      exact take_nat f s _ _
    · rfl
  | _ => rfl
theorem objsTake_nat : ∀ (l : List (Nat × Sh)) (K : (shsOf l).den → List (Option Nat) → Option ρ), (objsTake S l K).bind f = objsTake S l (fun y l => (K y l).bind f)
  | [], K => rfl
  | p :: r, K => by simp only [objsTake]; rw [obTake_nat]; congr 1; funext y a; exact objsTake_nat r _
theorem slotsTake_nat : ∀ (l : List (Nat × Sh)) (K : (shsOf l).den → List (Option Nat) → Option ρ), (slotsTake S l K).bind f = slotsTake S l (fun y l => (K y l).bind f)
  | [], K => rfl
  | p :: r, K => by simp only [slotsTake]; rw [take_nat f]; congr 1; funext y a; exact slotsTake_nat r _
theorem sshTake_nat (s : SSh) (n0 : Nat) (K : s.den → Option ρ) : (s.take n0 S K).bind f = s.take n0 S (fun y => (K y).bind f) := by
  unfold SSh.take
  rw [objsTake_nat]
  congr 1; funext z b
  rw [slotsTake_nat]
  congr 1; funext y a
  rw [cond_bind]; rfl
def stepF {σ α β : Type} (F : α → Option β) : σ ⊕ α → Option (σ ⊕ β)
  | .inl s => some (.inl s)
  | .inr t => (F t).map .inr
theorem iter_nat {σ α β : Type} (F : α → Option β) : ∀ (k : Nat) (g : σ → Option (σ ⊕ α)) (s : σ), (iter k g s).bind F = iter k (fun s => (g s).bind (stepF F)) s
  | 0, g, s => rfl
  | k + 1, g, s => by
    simp only [iter]
    cases g s with
    | none => rfl
    | some r =>
      cases r with
      | inl s' => simp only [Option.bind_some]; exact iter_nat F k g s'
      | inr t => simp only [Option.bind_some, stepF]; cases F t <;> rfl
end
def Kt.bind {σ τ : Type} (K : Kt σ) (f : σ → Option τ) : Kt τ := ⟨fun S => (K.n S).bind f, fun j S => (K.x j S).bind f, fun S => (K.r S).bind f⟩
theorem Kt.ext {σ : Type} {K K' : Kt σ} (h1 : ∀ S, K.n S = K'.n S) (h2 : ∀ j S, K.x j S = K'.x j S) (h3 : ∀ S, K.r S = K'.r S) : K = K' := by
  cases K; cases K'
  simp only [Kt.mk.injEq]
  exact ⟨funext h1, funext fun j => funext (h2 j), funext h3⟩
theorem meet_nat {σ τ : Type} (f : σ → Option τ) (h : Option SSh) (ds : List Nat) (S : St) (K : Kt σ) (go : {τ : Type} → St → Kt τ → Option τ)
    (hgo : ∀ {α β : Type} (F : α → Option β) (S' : St) (K : Kt α), S'.slots = S.slots → (go S' K).bind F = go S' (K.bind F)) : (meetK h ds S K go).bind f = meetK h ds S (K.bind f) go := by
  unfold meetK
  cases h with
  | none => exact hgo f S K rfl
  | some s =>
    simp only
    rw [cond_bind]
    congr 1
    let F : σ ⊕ s.den → Option (τ ⊕ s.den) := fun r => match r with | .inl z => (f z).map .inl | .inr y => some (.inr y)
    have hK : (⟨fun S' => s.take S.objs.length S' fun y => some (.inr y), fun j S' => ((K.bind f).x j (S'.touch (S'.touched ++ S.touched))).map .inl, fun S' => ((K.bind f).r (S'.touch (S'.touched ++ S.touched))).map .inl⟩ : Kt (τ ⊕ s.den)) =
        (⟨fun S' => s.take S.objs.length S' fun y => some (.inr y), fun j S' => (K.x j (S'.touch (S'.touched ++ S.touched))).map .inl, fun S' => (K.r (S'.touch (S'.touched ++ S.touched))).map .inl⟩ : Kt (σ ⊕ s.den)).bind F := by
      refine Kt.ext (fun S' => ?_) (fun j S' => ?_) (fun S' => ?_)
      · exact (sshTake_nat (f := F) (S := S') s S.objs.length (fun y => some (.inr y))).symm
      · simp only [Kt.bind]; cases K.x j (S'.touch (S'.touched ++ S.touched)) <;> rfl
      · simp only [Kt.bind]; cases K.r (S'.touch (S'.touched ++ S.touched)) <;> rfl
    rw [hK, ← hgo F (S.touch []) _ rfl]
    cases go (S.touch []) _ with
    | none => rfl
    | some r =>
      cases r with
      | inl z => simp only [Option.bind_some, F]; cases f z <;> rfl
      | inr y => simp only [Option.bind_some, F]; rfl
theorem ev_nat {E : Env} {H : Hints} {k : Nat} : ∀ (code : Code) (i : Nat) {σ τ : Type} (f : σ → Option τ) (S : St) (K : Kt σ), (ev E H k code i S K).bind f = ev E H k code i S (K.bind f)
  | .skip, i, σ, τ, f, S, K => rfl
  | .ret, i, σ, τ, f, S, K => rfl
  | .exit id, i, σ, τ, f, S, K => rfl
  | .region id ops draw, i, σ, τ, f, S, K => by
    simp only [ev]
    exact meet_nat f _ _ S K _ (fun F S' K _ => evRegion_nat _ _ _)
  | .seq a b, i, σ, τ, f, S, K => by
    simp only [ev]
    rw [ev_nat a]
    congr 1
    refine Kt.ext (fun S' => ?_) (fun j S' => rfl) (fun S' => rfl)
    exact ev_nat b i f S' K
  | .cond c a b, i, σ, τ, f, S, K => by
    simp only [ev]
    split
    · split
      · refine meet_nat f _ _ S K _ (fun F S' K _ => ?_)
        rw [cond_bind, ev_nat a, ev_nat b]
      · rfl
    · rfl
  | .block id b, i, σ, τ, f, S, K => by
    simp only [ev]
    refine meet_nat f _ _ S K _ (fun F S' K _ => ?_)
    rw [ev_nat b]
    congr 1
    refine Kt.ext (fun S' => rfl) (fun j S' => ?_) (fun S' => rfl)
    simp only [Kt.bind, cond_bind]
  | .loop b, i, σ, τ, f, S, K => by
    simp only [ev]
    split
    · rfl
    · rename_i hd ex out hH
      rw [cond_bind, sshTake_nat]
      congr 1
      congr 1
      funext y0
      let F : σ ⊕ out.den → Option (τ ⊕ out.den) := fun r => match r with | .inl z => (f z).map .inl | .inr z => some (.inr z)
      have hbody : (fun y => ev E H k b i (σ := hd.den ⊕ (τ ⊕ out.den)) (hd.lay S (dsts b) y)
              { n := fun S' => hd.take S.objs.length S' fun y => some (.inl y)
                x := fun j S' => cond (Nat.beq j ex) (out.take S.objs.length S' fun z => some (.inr (.inr z))) none
                r := fun S' => ((K.bind f).r (S'.touch (S'.touched ++ S.touched))).map fun z => .inr (.inl z) }) =
          (fun y => (ev E H k b i (σ := hd.den ⊕ (σ ⊕ out.den)) (hd.lay S (dsts b) y)
              { n := fun S' => hd.take S.objs.length S' fun y => some (.inl y)
                x := fun j S' => cond (Nat.beq j ex) (out.take S.objs.length S' fun z => some (.inr (.inr z))) none
                r := fun S' => (K.r (S'.touch (S'.touched ++ S.touched))).map fun z => .inr (.inl z) }).bind (stepF F)) := by
        funext y
        rw [ev_nat b]
        congr 1
        refine Kt.ext (fun S' => ?_) (fun j S' => ?_) (fun S' => ?_)
        · simp only [Kt.bind]; rw [sshTake_nat]; rfl
        · simp only [Kt.bind]; rw [cond_bind, sshTake_nat]; rfl
        · simp only [Kt.bind]
          cases K.r (S'.touch (S'.touched ++ S.touched)) with
          | none => rfl
          | some z => simp only [Option.bind_some, Option.map_some, F, stepF]; cases f z <;> rfl
      rw [hbody, ← iter_nat F]
      cases iter k _ y0 with
      | none => rfl
      | some r =>
        cases r with
        | inl z => simp only [Option.bind_some, F]; cases f z <;> rfl
        | inr z => simp only [Option.bind_some, F]; rfl
  | .rangeFunc _ _ _ _, i, σ, τ, f, S, K => rfl
  | .scope _, i, σ, τ, f, S, K => rfl
  | .refuse _, i, σ, τ, f, S, K => rfl
  | .label _, i, σ, τ, f, S, K => rfl
  | .goto _, i, σ, τ, f, S, K => rfl
end Go.Vm
