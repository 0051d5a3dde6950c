/- Vm, part 21: control is right. Own work. -/
import Derived.Test.YtfiembgemhonlaaVmJoin
import Derived.LoopN
set_option linter.unusedVariables false
set_option linter.unusedSimpArgs false
namespace Go.Vm
open Go.RowKit
section
variable {P : Program} {E : Env} {H : Hints} {c : Cx}
theorem SR.touch {S : St} {μ : Nat → Value} {a : Act} {w : World} (h : SR c S μ a w) (l : List Nat) : SR c (S.touch l) μ a w := ⟨h.defers, h.slots, h.objs, h.keep, h.mine⟩
/-- what holds behind: for each way out -/
structure Post (c : Cx) {σ : Type} (K : Kt σ) (r0 : σ) (m : Nat) (ds : List Nat) (S : St) (μ : Nat → Value) (Q : Exit → Act → World → Prop) : Prop where
  n : ∀ S' μ' a' w', K.n S' = some r0 → SR c S' μ' a' w' → Ag m ds S μ S' μ' → Q .normal a' w'
  x : ∀ j S' μ' a' w', K.x j S' = some r0 → SR c S' μ' a' w' → Ag m ds S μ S' μ' → Q (.exit j) a' w'
  r : ∀ S' μ' a' w', K.r S' = some r0 → SR c S' μ' a' w' → Ag m ds S μ S' μ' → Q .ret a' w'
def GoOK (P : Program) (c : Cx) (code : Code) (ds : List Nat) (S0 : St) (go : {τ : Type} → St → Kt τ → Option τ) : Prop :=
  ∀ {τ : Type} (S : St) (K : Kt τ) (r : τ) (μ : Nat → Value) (a : Act) (w : World) (n : Nat) (Q : Exit → Act → World → Prop), S.slots = S0.slots → S.objs = S0.objs → go S K = some r → SR c S μ a w → n ≤ S.objs.length → Post c K r n ds S μ Q → code.wp P Q a w
theorem Ag.touch {n : Nat} {ds : List Nat} {S S' : St} {μ μ' : Nat → Value} (h : Ag n ds (S.touch []) μ S' μ') (l : List Nat) (hl : ∀ i ∈ S'.touched, i ∈ l) (hs : ∀ i ∈ S.touched, i ∈ l) : Ag n ds S μ (S'.touch l) μ' :=
  ⟨h.len, h.slot, h.olen, fun i hi => (h.ob i hi).imp id (hl i), fun i hi => hs i hi, h.later⟩
theorem Ag.less {n m : Nat} {ds : List Nat} {S S' : St} {μ μ' : Nat → Value} (h : Ag n ds S μ S' μ') (hm : m ≤ n) : Ag m ds S μ S' μ' :=
  ⟨h.len, h.slot, Nat.le_trans hm h.olen, fun i hi => h.ob i (by omega), h.touched, fun i hi => h.later i (by omega)⟩
theorem meet_sound {code : Code} {h : Option SSh} {ds : List Nat} {S : St} {go : {τ : Type} → St → Kt τ → Option τ} (hgo : GoOK P c code ds S go) {σ : Type} {K : Kt σ} {r : σ} {μ : Nat → Value} {a : Act} {w : World} {n : Nat} {Q : Exit → Act → World → Prop}
    (he : meetK h ds S K go = some r) (hsr : SR c S μ a w) (hn : n ≤ S.objs.length) (hp : Post c K r n ds S μ Q) : code.wp P Q a w := by
  unfold meetK at he
  split at he
  · exact hgo S K r μ a w n Q rfl rfl he hsr hn hp
  · rename_i s
    obtain ⟨hfit, he⟩ := cond_some he
    obtain ⟨r1, h1, h2⟩ := Option.bind_eq_some_iff.1 he
    refine hgo (S.touch []) _ r1 μ a w S.objs.length Q rfl rfl h1 (hsr.touch []) (Nat.le_refl _) ⟨fun S' μ' a' w' hk hs hag => ?_, fun j S' μ' a' w' hk hs hag => ?_, fun S' μ' a' w' hk hs hag => ?_⟩
    · have hk' : s.take (S.touch []).objs.length S' (fun y => some (Sum.inr y)) = some r1 := hk
      obtain ⟨y, hy, μ2, h3, h4⟩ := join_sound (S0 := S.touch []) (s := s) (ds := ds) hfit hk' hs hag rfl
      simp only [Option.some.injEq] at hy
      subst hy
      simp only at h2
      exact hp.n _ μ2 a' w' h2 (h3.touch _) (Ag.less (h4.touch _ (fun i hi => by simp only [List.mem_append]; left; simpa [SSh.lay] using hi) (fun i hi => by simp [hi])) hn)
    · obtain ⟨z, hz, hz2⟩ := Option.map_eq_some_iff.1 hk
      subst hz2
      simp only [Option.some.injEq] at h2
      subst h2
      exact hp.x j _ μ' a' w' hz (hs.touch _) (Ag.less (hag.touch _ (fun i hi => by simp [hi]) (fun i hi => by simp [hi])) hn)
    · obtain ⟨z, hz, hz2⟩ := Option.map_eq_some_iff.1 hk
      subst hz2
      simp only [Option.some.injEq] at h2
      subst h2
      exact hp.r _ μ' a' w' hz (hs.touch _) (Ag.less (hag.touch _ (fun i hi => by simp [hi]) (fun i hi => by simp [hi])) hn)
theorem set_same' {S : St} {t : Nat} {b : Bool} (h : S.slots.getD t .undef = .bool b) : ({ S with slots := S.slots.set t (.bool b) } : St) = S := set_same h
/-- THE EVALUATOR IS RIGHT. -/
theorem ev_sound (hE : EnvOK P E) (hm : P.follows .mixedOrders = true) {k : Nat} : ∀ (code : Code) (i : Nat) {σ : Type} (S : St) (K : Kt σ) (r : σ) (μ : Nat → Value) (a : Act) (w : World) (n : Nat) (Q : Exit → Act → World → Prop),
    ev E H k code i S K = some r → SR c S μ a w → n ≤ S.objs.length → Post c K r n (dsts code) S μ Q → code.wp P Q a w
  | .skip, i, σ, S, K, r, μ, a, w, n, Q, h, hsr, hn, hp => wp_skip (hp.n S μ a w h hsr (Ag.refl _ hn))
  | .ret, i, σ, S, K, r, μ, a, w, n, Q, h, hsr, hn, hp => wp_ret (hp.r S μ a w h hsr (Ag.refl _ hn))
  | .exit id, i, σ, S, K, r, μ, a, w, n, Q, h, hsr, hn, hp => wp_exit (hp.x id S μ a w h hsr (Ag.refl _ hn))
  | .region id ops draw, i, σ, S, K, r, μ, a, w, n, Q, h, hsr, hn, hp => by
    refine meet_sound (ds := dstsOps ops.toList) (S := S) (n := n) ?_ h hsr hn hp
    intro τ S1 K r μ a w n Q _ _ h hsr hn hp
    exact region_sound hE hm h hsr (fun o ho t ht => dstsOps_mem ho ht) hn (fun S' μ' a' w' h1 h2 h3 => hp.n S' μ' a' w' h1 h2 h3)
  | .seq x y, i, σ, S, K, r, μ, a, w, n, Q, h, hsr, hn, hp => by
    refine wp_seq (ev_sound hE hm x i S _ r μ a w n _ h hsr hn ⟨fun S' μ' a' w' hk hs hag => ?_, fun j S' μ' a' w' hk hs hag => ?_, fun S' μ' a' w' hk hs hag => ?_⟩)
    · have cov : ∀ {S2 : St} {μ2 : Nat → Value}, Ag n (dsts y) S' μ' S2 μ2 → Ag n (dsts (.seq x y)) S μ S2 μ2 := fun h => hag.trans h (fun t ht => by simp [dsts, ht]) (fun t ht => by simp [dsts, ht])
      exact ev_sound hE hm y i S' K r μ' a' w' n Q hk hs hag.olen ⟨fun S2 μ2 a2 w2 h1 h2 h3 => hp.n S2 μ2 a2 w2 h1 h2 (cov h3), fun j S2 μ2 a2 w2 h1 h2 h3 => hp.x j S2 μ2 a2 w2 h1 h2 (cov h3), fun S2 μ2 a2 w2 h1 h2 h3 => hp.r S2 μ2 a2 w2 h1 h2 (cov h3)⟩
    · exact hp.x j S' μ' a' w' hk hs (hag.mono (fun t ht => by simp [dsts, ht]))
    · exact hp.r S' μ' a' w' hk hs (hag.mono (fun t ht => by simp [dsts, ht]))
  | .cond q x y, i, σ, S, K, r, μ, a, w, n, Q, h, hsr, hn, hp => by
    simp only [ev] at h
    split at h
    · rename_i t
      split at h
      · rename_i v hv
        refine meet_sound (ds := dsts (.cond (.tmp t) x y)) (S := S) (n := n) ?_ (by simpa only [dsts, List.singleton_append, List.cons_append, List.nil_append] using h) hsr hn hp
        intro τ S1 K r μ a w n Q e1 e2 h hsr hn hp
        have hv1 : S1.slots.getD t .undef = .bool v := by rw [e1]; exact hv
        have hev : a.eval (.tmp t) = .bool v := by
          have := hsr.slots.opd (.tmp t)
          simp only [opd, hv1] at this
          exact this.bool
        refine wp_cond_split hev (fun ht => ?_) (fun hf => ?_)
        · subst ht
          simp only [cond_true] at h
          rw [set_same hv1] at h
          exact ev_sound hE hm x i S1 K r μ a w n Q h hsr hn ⟨fun S2 μ2 a2 w2 h1 h2 h3 => hp.n S2 μ2 a2 w2 h1 h2 (h3.mono (fun t ht => by simp [dsts, ht])), fun j S2 μ2 a2 w2 h1 h2 h3 => hp.x j S2 μ2 a2 w2 h1 h2 (h3.mono (fun t ht => by simp [dsts, ht])), fun S2 μ2 a2 w2 h1 h2 h3 => hp.r S2 μ2 a2 w2 h1 h2 (h3.mono (fun t ht => by simp [dsts, ht]))⟩
        · subst hf
          simp only [cond_false] at h
          rw [set_same hv1] at h
          exact ev_sound hE hm y i S1 K r μ a w n Q h hsr hn ⟨fun S2 μ2 a2 w2 h1 h2 h3 => hp.n S2 μ2 a2 w2 h1 h2 (h3.mono (fun t ht => by simp [dsts, ht])), fun j S2 μ2 a2 w2 h1 h2 h3 => hp.x j S2 μ2 a2 w2 h1 h2 (h3.mono (fun t ht => by simp [dsts, ht])), fun S2 μ2 a2 w2 h1 h2 h3 => hp.r S2 μ2 a2 w2 h1 h2 (h3.mono (fun t ht => by simp [dsts, ht]))⟩
      · cases h
    · cases h
  | .block id x, i, σ, S, K, r, μ, a, w, n, Q, h, hsr, hn, hp => by
    refine meet_sound (ds := dsts x) (S := S) (n := n) ?_ h hsr hn hp
    intro τ S1 K2 r2 μ a w n Q _ _ h hsr hn hp2
    refine wp_block (ev_sound hE hm x id S1 _ r2 μ a w n _ h hsr hn ⟨fun S2 μ2 a2 w2 h1 h2 h3 => hp2.n S2 μ2 a2 w2 h1 h2 h3, fun j S2 μ2 a2 w2 h1 h2 h3 => ?_, fun S2 μ2 a2 w2 h1 h2 h3 => hp2.r S2 μ2 a2 w2 h1 h2 h3⟩)
    simp only [Exit.inBlock]
    by_cases e : j = id
    · subst e
      simp only [Nat.beq_refl, cond_true] at h1
      rw [if_pos rfl]
      exact hp2.n S2 μ2 a2 w2 h1 h2 h3
    · have : Nat.beq j id = false := by rw [← Bool.not_eq_true]; simpa using e
      simp only [this, cond_false] at h1
      rw [if_neg e]
      exact hp2.x j S2 μ2 a2 w2 h1 h2 h3
  | .loop x, i, σ, S, K, r, μ, a, w, n, Q, h, hsr, hn, hp => by
    simp only [ev] at h
    split at h
    · cases h
    · rename_i hd ex out hH
      obtain ⟨hfit, h⟩ := cond_some h
      simp only [Bool.and_eq_true] at hfit
      obtain ⟨hfit1, hfit2⟩ := hfit
      have hS0 : Ag S.objs.length (dsts x) (S.touch []) μ (S.touch []) μ := Ag.refl _ (Nat.le_refl _)
      obtain ⟨y0, h, μ1, hsr1, hag1⟩ := join_sound (S0 := S.touch []) (s := hd) (ds := dsts x) hfit1 h (hsr.touch []) hS0 rfl
      obtain ⟨r1, h1, h2⟩ := Option.bind_eq_some_iff.1 h
      refine wp_loop_rounds k ?_
      have hkey : ∀ (k' : Nat) (y : hd.den) (μ1 : Nat → Value) (a : Act) (w : World), iter (τ := σ ⊕ out.den) k' (fun y =>
            ev E H k x i (σ := hd.den ⊕ (σ ⊕ out.den)) (hd.lay S (dsts x) y)
              { n := fun S' => hd.take S.objs.length S' fun y => some (.inl y)
                x := fun j S' => cond (Nat.beq j ex) (out.take S.objs.length S' fun z => some (.inr (.inr z))) none
                r := fun S' => (K.r (S'.touch (S'.touched ++ S.touched))).map fun z => .inr (.inl z) }) y = some r1 →
          SR c (hd.lay S (dsts x) y) μ1 a w → Ag S.objs.length (dsts x) (S.touch []) μ (hd.lay S (dsts x) y) μ1 → Code.rounds P x Q k' a w := by
        intro k'
        induction k' with
        | zero => intro y μ1 a w h; simp [iter] at h
        | succ k' ih =>
          intro y μ1 a w h hsr1 hag1
          simp only [iter] at h
          obtain ⟨r2, h3, h4⟩ := Option.bind_eq_some_iff.1 h
          rw [rounds_succ]
          refine ev_sound hE hm x i _ _ r2 μ1 a w S.objs.length _ h3 hsr1 hag1.olen ⟨fun S' μ' a' w' hk hs hag => ?_, fun j S' μ' a' w' hk hs hag => ?_, fun S' μ' a' w' hk hs hag => ?_⟩
          · have hk' : hd.take (S.touch []).objs.length S' (fun y => some (Sum.inl y)) = some r2 := hk
            obtain ⟨y2, hy, μ2, h5, h6⟩ := join_sound (S0 := S.touch []) (s := hd) (ds := dsts x) hfit1 hk' hs (hag1.trans hag (fun _ h => h) (fun _ h => h)) rfl
            simp only [Option.some.injEq] at hy
            subst hy
            simp only at h4
            exact ih y2 μ2 a' w' h4 h5 h6
          · by_cases e : j = ex
            · subst e
              simp only [Nat.beq_refl, cond_true] at hk
              have hk' : out.take (S.touch []).objs.length S' (fun z => some (Sum.inr (Sum.inr z))) = some r2 := hk
              obtain ⟨y2, hy, μ2, h5, h6⟩ := join_sound (S0 := S.touch []) (s := out) (ds := dsts x) hfit2 hk' hs (hag1.trans hag (fun _ h => h) (fun _ h => h)) rfl
              simp only [Option.some.injEq] at hy
              subst hy
              simp only [Option.some.injEq] at h4
              subst h4
              simp only at h2
              exact hp.x j _ μ2 a' w' h2 (h5.touch _) (Ag.less (h6.touch _ (fun i hi => by simp only [List.mem_append]; left; simpa [SSh.lay] using hi) (fun i hi => by simp [hi])) hn)
            · have : Nat.beq j ex = false := by rw [← Bool.not_eq_true]; simpa using e
              simp only [this, cond_false] at hk
              cases hk
          · obtain ⟨z, hz, hz2⟩ := Option.map_eq_some_iff.1 hk
            subst hz2
            simp only [Option.some.injEq] at h4
            subst h4
            simp only [Option.some.injEq] at h2
            subst h2
            exact hp.r _ μ' a' w' hz (hs.touch _) (Ag.less ((hag1.trans hag (fun _ h => h) (fun _ h => h)).touch _ (fun i hi => by simp [hi]) (fun i hi => by simp [hi])) hn)
      exact hkey k y0 μ1 a w h1 hsr1 hag1
end
end Go.Vm
