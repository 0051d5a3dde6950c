/- Vm, part 20: where ways meet. Own work. -/
import Derived.Test.YtfiembgemhonlaaVmDrawT
set_option linter.unusedVariables false
set_option linter.unusedSimpArgs false
namespace Go.Vm
open Go.RowKit
section
variable {w : World} {A : Nat → Prop} {S : St} {μ : Nat → Value} {ρ : Type}
theorem Ty.fits_leaf {v v' : PV} (h1 : v.isAgg = false) (h2 : v'.isAgg = false) {T : Ty} (h : T.fits v = true) : T.fits v' = true := by
  cases T with
  | struct fs => cases v <;> first | (cases h1; done) | (simp [Ty.fits] at h)
  | _ => simp only [Ty.fits, h2]; rfl
theorem TD.fits_leaf {v v' : PV} (h1 : v.isAgg = false) (h2 : v'.isAgg = false) {d : TD} (h : d.fits v = true) : d.fits v' = true := by
  cases d with
  | data T => simp only [TD.fits] at h ⊢; exact Ty.fits_leaf h1 h2 h
  | cell k => simp only [TD.fits, h2]; rfl
  | agg ds => cases v <;> first | (cases h1; done) | (simp [TD.fits] at h)
def srcV (μ : Nat → Value) : Option Nat → Value
  | some o => μ o
  | none => .slice none 0 0
/-- These objects lie from a place on. -/
def Agrees (μ : Nat → Value) (base : Nat) (l : List (Option Nat)) (news : List OB) (ob2 : Nat → OB) (μ2 : Nat → Value) : Prop :=
  ∀ i, i < l.length → ob2 (base + i) = news.getD i .dead ∧ μ2 (base + i) = srcV μ (l.getD i none)
structure Laid (w : World) (A : Nat → Prop) (S : St) (μ : Nat → Value) (v : PV) (l : List (Option Nat)) (lay : List OB → PV × List OB) : Prop where
  alive : ∀ o ∈ used l, (S.ob o).alive = true
  lie : ∀ objs, ∃ news, (lay objs).2 = objs ++ news ∧ news.length = l.length ∧ ∀ ob2 μ2, Agrees μ objs.length l news ob2 μ2 →
    (∀ cs, CR w A S.ob μ v cs → CR w A ob2 μ2 (lay objs).1 cs) ∧ (∀ i, i < l.length → OR w A ob2 μ2 (objs.length + i))
  form : ∀ objs, (lay objs).1.isAny = false ∧ (lay objs).1.isAgg = v.isAgg ∧ (∀ T : Ty, T.fits v = true → T.fits (lay objs).1 = true) ∧ (∀ d : TD, d.fits v = true → d.fits (lay objs).1 = true)
structure Laids (w : World) (A : Nat → Prop) (S : St) (μ : Nat → Value) (vs : List PV) (l : List (Option Nat)) (lay : List OB → List PV × List OB) : Prop where
  alive : ∀ o ∈ used l, (S.ob o).alive = true
  lie : ∀ objs, ∃ news, (lay objs).2 = objs ++ news ∧ news.length = l.length ∧ ∀ ob2 μ2, Agrees μ objs.length l news ob2 μ2 →
    (∀ cs, CRs w A S.ob μ vs cs → CRs w A ob2 μ2 (lay objs).1 cs) ∧ (∀ i, i < l.length → OR w A ob2 μ2 (objs.length + i))
  form : ∀ objs, (∀ T : Tys, T.fits vs = true → T.fits (lay objs).1 = true) ∧ (∀ d : TDs, d.fits vs = true → d.fits (lay objs).1 = true)
theorem used_append (a b : List (Option Nat)) : used (a ++ b) = used a ++ used b := by
  induction a with
  | nil => rfl
  | cons x a ih => cases x <;> simp [used, ih]
theorem Agrees.left {base : Nat} {l m : List (Option Nat)} {n1 n2 : List OB} {ob2 : Nat → OB} {μ2 : Nat → Value} (h : Agrees μ base (l ++ m) (n1 ++ n2) ob2 μ2) (hl : n1.length = l.length) : Agrees μ base l n1 ob2 μ2 := fun i hi => by
  have := h i (by simp; omega)
  rw [List.getD, List.getD, List.getElem?_append_left (by omega), List.getElem?_append_left hi] at this
  exact this
theorem Agrees.right {base : Nat} {l m : List (Option Nat)} {n1 n2 : List OB} {ob2 : Nat → OB} {μ2 : Nat → Value} (h : Agrees μ base (l ++ m) (n1 ++ n2) ob2 μ2) (hl : n1.length = l.length) : Agrees μ (base + l.length) m n2 ob2 μ2 := fun i hi => by
  have := h (l.length + i) (by simp; omega)
  rw [List.getD, List.getD, List.getElem?_append_right (by omega), List.getElem?_append_right (by omega)] at this
  rw [Nat.add_assoc]
  rw [show l.length + i - n1.length = i from by omega, show l.length + i - l.length = i from by omega] at this
  exact this
theorem Laid.leaf {v u : PV} (hv : v.isAgg = false) (hu : u.isAgg = false) (hn : u.isAny = false) (h : ∀ ob2 μ2 cs, CR w A S.ob μ v cs → CR w A ob2 μ2 u cs) : Laid w A S μ v [] (fun l => (u, l)) :=
  ⟨fun o ho => (by cases ho), fun objs => ⟨[], by simp, rfl, fun ob2 μ2 _ => ⟨fun cs hc => h ob2 μ2 cs hc, fun i hi => (by cases hi)⟩⟩,
    fun objs => ⟨hn, by rw [hu, hv], fun T hT => Ty.fits_leaf hv hu hT, fun d hd => TD.fits_leaf hv hu hd⟩⟩
mutual
theorem Sh.sound (hO : Objs w A S.ob μ) : ∀ (s : Sh) (v : PV) (K : s.den → List (Option Nat) → Option ρ) (r : ρ), Sh.take S s v K = some r → ∃ y l, K y l = some r ∧ Laid w A S μ v l (Sh.lay s y)
  | .int k, v, K, r, h => by
    simp only [Sh.take] at h
    split at h
    · obtain ⟨hk, h2⟩ := cond_some h
      have e := of_decide_eq_true hk
      subst e
      exact ⟨_, _, h2, .leaf rfl rfl rfl (fun _ _ cs hc => by simpa only [CR] using hc)⟩
    · cases h
  | .bool, v, K, r, h => by
    simp only [Sh.take] at h
    split at h
    · exact ⟨_, _, h, .leaf rfl rfl rfl (fun _ _ cs hc => by simpa only [CR] using hc)⟩
    · cases h
  | .str, v, K, r, h => by
    simp only [Sh.take] at h
    split at h
    · exact ⟨_, _, h, .leaf rfl rfl rfl (fun _ _ cs hc => by simpa only [CR] using hc)⟩
    · cases h
  | .sl T, v, K, r, h => by
    simp only [Sh.take] at h
    split at h
    · obtain ⟨ys, h1, h⟩ := optK_some h
      obtain ⟨e, h1⟩ := castL_some h1
      subst e; subst h1
      exact ⟨_, _, h, .leaf rfl rfl rfl (fun _ _ cs hc => by simpa only [CR] using hc)⟩
    · refine ⟨_, _, h, .leaf rfl rfl rfl (fun _ _ cs hc => ?_)⟩
      simp only [CR] at hc ⊢
      subst hc
      simp only [DR]
      exact ⟨none, 0, rfl, ⟨Nat.le_refl _, Nat.zero_le _⟩, .inl rfl⟩
    · cases h
  | .row T, v, K, r, h => by
    simp only [Sh.take] at h
    split at h
    · rename_i o
      split at h
      · rename_i U xs hob
        obtain ⟨ys, h1, h⟩ := optK_some h
        obtain ⟨e, h1⟩ := castL_some h1
        subst e; subst h1
        refine ⟨_, _, h, ⟨fun x hx => by simp [used] at hx; subst hx; rw [hob]; rfl, fun objs => ⟨[.row U xs], rfl, rfl, fun ob2 μ2 hag => ?_⟩, fun objs => ⟨rfl, rfl, fun T hT => Ty.fits_leaf (v := .row o) rfl rfl hT, fun d hd => TD.fits_leaf (v := .row o) rfl rfl hd⟩⟩⟩
        obtain ⟨h2, h3⟩ := hag 0 (by simp)
        simp only [Nat.add_zero, List.getD_cons_zero, srcV] at h2 h3
        refine ⟨fun cs hc => ?_, fun i hi => ?_⟩
        · simp only [CR, Sh.lay] at hc ⊢
          obtain ⟨x, e1, e2, e3⟩ := hc
          simp only [hob] at e3
          exact ⟨x, e1, e2, by rw [h2]; simp only; rw [h3]; exact e3⟩
        · have : i = 0 := by simpa using hi
          subst this
          have hor := hO.each o
          unfold OR at hor ⊢
          rw [Nat.add_zero, h2, h3]
          simpa only [hob] using hor
      · cases h
    · refine ⟨_, _, h, ⟨fun x hx => by simp [used] at hx, fun objs => ⟨[.row T []], rfl, rfl, fun ob2 μ2 hag => ?_⟩, fun objs => ⟨rfl, rfl, fun T hT => Ty.fits_leaf (v := .nil) rfl rfl hT, fun d hd => TD.fits_leaf (v := .nil) rfl rfl hd⟩⟩⟩
      obtain ⟨h2, h3⟩ := hag 0 (by simp)
      simp only [Nat.add_zero, List.getD_cons_zero, srcV] at h2 h3
      refine ⟨fun cs hc => ?_, fun i hi => ?_⟩
      · simp only [CR, Sh.lay] at hc ⊢
        exact ⟨_, hc, rfl, by rw [h2]; simp only; rw [h3]⟩
      · have : i = 0 := by simpa using hi
        subst this
        unfold OR
        rw [Nat.add_zero, h2]
        exact .inl ⟨rfl, h3⟩
    · cases h
  | .box d s, v, K, r, h => by
    simp only [Sh.take] at h
    split at h
    · rename_i o
      split at h
      · rename_i d' v hob
        obtain ⟨hd, h0⟩ := cond_some h
        have e := of_decide_eq_true hd
        subst e
        obtain ⟨y, l, h1, h2⟩ := Sh.sound hO s v _ _ h0
        refine ⟨y, _, h1, ⟨fun x hx => ?_, fun objs => ?_, fun objs => ⟨rfl, rfl, fun T hT => Ty.fits_leaf (v := .ptr o []) rfl rfl hT, fun d hd => TD.fits_leaf (v := .ptr o []) rfl rfl hd⟩⟩⟩
        · rw [used_append, List.mem_append] at hx
          rcases hx with hx | hx
          · exact h2.alive x hx
          · simp [used] at hx; subst hx; rw [hob]; rfl
        · obtain ⟨news, g1, g2, g3⟩ := h2.lie objs
          refine ⟨news ++ [.box d (Sh.lay s y objs).1], by simp only [Sh.lay, g1, List.append_assoc], by simp [g2], fun ob2 μ2 hag => ?_⟩
          obtain ⟨k1, k2⟩ := g3 ob2 μ2 (hag.left g2)
          obtain ⟨k3, k4⟩ := (hag.right g2) 0 (by simp)
          simp only [Nat.add_zero, List.getD_cons_zero, srcV] at k3 k4
          have hlen : (Sh.lay s y objs).2.length = objs.length + l.length := by rw [g1]; simp [g2]
          refine ⟨fun cs hc => ?_, fun i hi => ?_⟩
          · simp only [CR, Sh.lay, hlen] at hc ⊢
            obtain ⟨x, e1, e2, e3⟩ := hc
            simp only [hob] at e3
            exact ⟨x, e1, e2, by rw [k3]; simp only; rw [k4]; exact e3⟩
          · by_cases hil : i < l.length
            · exact k2 i hil
            · have : i = l.length := by simp at hi; omega
              subst this
              have hor := hO.each o
              unfold OR at hor ⊢
              rw [k3, k4]
              simp only [hob] at hor ⊢
              obtain ⟨b, cs, t, e1, e2, e3, e4⟩ := hor
              exact ⟨b, cs, t, e1, e2, (h2.form objs).2.2.2 d e3, k1 _ e4⟩
      · cases h
    · cases h
  | .agg s, v, K, r, h => by
    simp only [Sh.take] at h
    split at h
    · rename_i vs
      obtain ⟨y, l, h1, h2⟩ := Shs.sound hO s vs _ _ h
      refine ⟨y, l, h1, ⟨h2.alive, fun objs => ?_, fun objs => ⟨rfl, rfl, fun T hT => ?_, fun d hd => ?_⟩⟩⟩
      · obtain ⟨news, g1, g2, g3⟩ := h2.lie objs
        refine ⟨news, g1, g2, fun ob2 μ2 hag => ?_⟩
        obtain ⟨k1, k2⟩ := g3 ob2 μ2 hag
        exact ⟨fun cs hc => by simp only [CR, Sh.lay] at hc ⊢; exact k1 cs hc, k2⟩
      · cases T <;> simp only [Ty.fits, Sh.lay] at hT ⊢ <;> first | exact (h2.form objs).1 _ hT | simp [PV.isAgg] at hT
      · cases d with
        | data T => cases T <;> simp only [TD.fits, Ty.fits, Sh.lay] at hd ⊢ <;> first | exact (h2.form objs).1 _ hd | simp [PV.isAgg] at hd
        | cell k => simp only [TD.fits, Sh.lay] at hd ⊢; simp [PV.isAgg] at hd
        | agg ds => simp only [TD.fits, Sh.lay] at hd ⊢; exact (h2.form objs).2 _ hd
    · cases h
theorem Shs.sound (hO : Objs w A S.ob μ) : ∀ (s : Shs) (vs : List PV) (K : s.den → List (Option Nat) → Option ρ) (r : ρ), Shs.take S s vs K = some r → ∃ y l, K y l = some r ∧ Laids w A S μ vs l (Shs.lay s y)
  | .nil, vs, K, r, h => by
    simp only [Shs.take] at h
    split at h
    · exact ⟨(), [], h, ⟨fun o ho => (by cases ho), fun objs => ⟨[], by simp [Shs.lay], rfl, fun ob2 μ2 _ => ⟨fun cs hc => by simpa only [CRs, Shs.lay] using hc, fun i hi => (by cases hi)⟩⟩, fun objs => ⟨fun T hT => hT, fun d hd => hd⟩⟩⟩
    · cases h
  | .cons s t, vs, K, r, h => by
    simp only [Shs.take] at h
    split at h
    · rename_i v vs
      obtain ⟨y, l, h1, h2⟩ := Sh.sound hO s v _ _ h
      obtain ⟨z, m, h3, h4⟩ := Shs.sound hO t vs _ _ h1
      refine ⟨(y, z), l ++ m, h3, ⟨fun o ho => ?_, fun objs => ?_, fun objs => ⟨fun T hT => ?_, fun d hd => ?_⟩⟩⟩
      · rw [used_append, List.mem_append] at ho
        exact ho.elim (h2.alive o) (h4.alive o)
      · obtain ⟨n1, g1, g2, g3⟩ := h2.lie objs
        obtain ⟨n2, g4, g5, g6⟩ := h4.lie (Sh.lay s y objs).2
        refine ⟨n1 ++ n2, by show (Shs.lay t z (Sh.lay s y objs).2).2 = _; rw [g4, g1, List.append_assoc], by simp [g2, g5], fun ob2 μ2 hag => ?_⟩
        have hlen : (Sh.lay s y objs).2.length = objs.length + l.length := by rw [g1]; simp [g2]
        obtain ⟨k1, k2⟩ := g3 ob2 μ2 (hag.left g2)
        obtain ⟨k3, k4⟩ := g6 ob2 μ2 (by rw [hlen]; exact hag.right g2)
        refine ⟨fun cs hc => ?_, fun i hi => ?_⟩
        · simp only [CRs, Shs.lay] at hc ⊢
          obtain ⟨c1, c2, e1, e2, e3⟩ := hc
          exact ⟨c1, c2, e1, k1 c1 e2, k3 c2 e3⟩
        · by_cases hil : i < l.length
          · exact k2 i hil
          · have := k4 (i - l.length) (by simp at hi; omega)
            rwa [hlen, show objs.length + l.length + (i - l.length) = objs.length + i from by omega] at this
      · cases T with
        | nil => simp [Tys.fits] at hT
        | cons t1 ts =>
          simp only [Tys.fits, Shs.lay, Bool.and_eq_true] at hT ⊢
          exact ⟨(h2.form objs).2.2.1 _ hT.1, (h4.form _).1 _ hT.2⟩
      · cases d with
        | nil => simp [TDs.fits] at hd
        | cons t1 ts =>
          simp only [TDs.fits, Shs.lay, Bool.and_eq_true] at hd ⊢
          exact ⟨(h2.form objs).2.2.2 _ hd.1, (h4.form _).2 _ hd.2⟩
    · cases h
end

theorem take_any (s : Sh) (K : s.den → List (Option Nat) → Option ρ) : Sh.take S s .any K = none := by cases s <;> rfl
theorem slots_sound {act : Act} (hO : Objs w A S.ob μ) (hsl : Slots w A S.ob μ S.slots act) : ∀ (l : List (Nat × Sh)) (K : (shsOf l).den → List (Option Nat) → Option ρ) (r : ρ), slotsTake S l K = some r →
    ∃ y a, K y a = some r ∧ (∀ o ∈ used a, (S.ob o).alive = true) ∧ ∀ vs objs, ∃ news, (laySlots l y vs objs).2 = objs ++ news ∧ news.length = a.length ∧ (laySlots l y vs objs).1.length = vs.length ∧
      (∀ t, t ∉ l.map (·.1) → (laySlots l y vs objs).1[t]? = vs[t]?) ∧ ∀ ob2 μ2, Agrees μ objs.length a news ob2 μ2 → (∀ i, i < a.length → OR w A ob2 μ2 (objs.length + i)) ∧
        ((∀ t v, vs[t]? = some v → VR w A ob2 μ2 v (act.tmps.getD t Go.undef)) → ∀ t v, (laySlots l y vs objs).1[t]? = some v → VR w A ob2 μ2 v (act.tmps.getD t Go.undef))
  | [], K, r, h => by
    simp only [slotsTake] at h
    exact ⟨(), [], h, fun o ho => (by cases ho), fun vs objs => ⟨[], by simp [laySlots], rfl, rfl, fun t _ => rfl, fun ob2 μ2 _ => ⟨fun i hi => (by cases hi), fun h => h⟩⟩⟩
  | p :: l, K, r, h => by
    simp only [slotsTake] at h
    obtain ⟨y, a, h1, h2⟩ := Sh.sound hO p.2 _ _ _ h
    obtain ⟨z, b, h3, h4, h5⟩ := slots_sound hO hsl l _ _ h1
    refine ⟨(y, z), a ++ b, h3, fun o ho => ?_, fun vs objs => ?_⟩
    · rw [used_append, List.mem_append] at ho
      exact ho.elim (h2.alive o) (h4 o)
    · obtain ⟨n1, g1, g2, g3⟩ := h2.lie objs
      obtain ⟨n2, g4, g5, g6, g7, g8⟩ := h5 (vs.set p.1 (Sh.lay p.2 y objs).1) (Sh.lay p.2 y objs).2
      have hlen : (Sh.lay p.2 y objs).2.length = objs.length + a.length := by rw [g1]; simp [g2]
      refine ⟨n1 ++ n2, by show (laySlots l z _ (Sh.lay p.2 y objs).2).2 = _; rw [g4, g1, List.append_assoc], by simp [g2, g5], by show (laySlots l z _ _).1.length = _; rw [g6]; simp, fun t ht => ?_, fun ob2 μ2 hag => ?_⟩
      · show (laySlots l z _ _).1[t]? = _
        simp only [List.map_cons, List.mem_cons, not_or] at ht
        rw [g7 t ht.2, List.getElem?_set]
        rw [if_neg (fun e => ht.1 e.symm)]
      · obtain ⟨k1, k2⟩ := g3 ob2 μ2 (hag.left g2)
        obtain ⟨k3, k4⟩ := g8 ob2 μ2 (by rw [hlen]; exact hag.right g2)
        refine ⟨fun i hi => ?_, fun hvs t v ht => k4 (fun t v ht => ?_) t v ht⟩
        · by_cases hil : i < a.length
          · exact k2 i hil
          · have := k3 (i - a.length) (by simp at hi; omega)
            rwa [hlen, show objs.length + a.length + (i - a.length) = objs.length + i from by omega] at this
        · rw [List.getElem?_set] at ht
          by_cases e : p.1 = t
          · subst e
            rw [if_pos rfl] at ht
            split at ht
            · simp only [Option.some.injEq] at ht
              subst ht
              have hv : VR w A S.ob μ (S.slots.getD p.1 .any) (act.tmps.getD p.1 Go.undef) := by
                cases hx : S.slots[p.1]? with
                | none => exact .inl (by simp [List.getD, hx, PV.isAny])
                | some u => simpa [List.getD, hx] using hsl.each p.1 u hx
              obtain ⟨f1, f2, _, _⟩ := h2.form objs
              rcases hv with hv | ⟨hv, hv2⟩
              · have : S.slots.getD p.1 .any = .any := by
                  cases hx : S.slots.getD p.1 .any <;> first | rfl | (rw [hx] at hv; cases hv)
                rw [this, take_any] at h
                cases h
              · exact .inr ⟨k1 _ hv, by rw [f2]; exact hv2⟩
            · cases ht
          · rw [if_neg e] at ht
            exact hvs t v ht
theorem ob_sound (hO : Objs w A S.ob μ) (s : Sh) (o : Nat) (K : s.den → List (Option Nat) → Option ρ) (r : ρ) (h : obTake S s (S.ob o) K = some r) : ∃ y a, K y a = some r ∧ (∀ x ∈ used a, (S.ob x).alive = true) ∧ (S.ob o).alive = true ∧
    ∀ objs : List OB, ∃ news cont, layOb s y o objs = (objs ++ news).set o cont ∧ news.length = a.length ∧ (∀ (ob2 : Nat → OB) (μ2 : Nat → Value), ob2 o = cont → μ2 o = μ o → Later S.ob μ ob2 μ2 o) ∧
      ∀ ob2 μ2, Agrees μ objs.length a news ob2 μ2 → ob2 o = cont → μ2 o = μ o → OR w A ob2 μ2 o ∧ ∀ i, i < a.length → OR w A ob2 μ2 (objs.length + i) := by
  cases s with
  | row T =>
    simp only [obTake] at h
    split at h
    · rename_i U xs hob
      obtain ⟨ys, h1, h⟩ := optK_some h
      obtain ⟨e, h1⟩ := castL_some h1
      subst e; subst h1
      refine ⟨_, _, h, fun x hx => (by cases hx), by rw [hob]; rfl, fun objs => ⟨[], .row U xs, by simp [layOb], rfl, fun ob2 μ2 e1 e2 => ?_, fun ob2 μ2 _ e1 e2 => ⟨?_, fun i hi => (by cases hi)⟩⟩⟩
      · unfold Later; rw [e1]; exact ⟨⟨xs, hob⟩, e2⟩
      · have hor := hO.each o
        unfold OR at hor ⊢
        rw [e1, e2]
        simpa only [hob] using hor
    · cases h
  | box d s =>
    simp only [obTake] at h
    split at h
    · rename_i d' v hob
      obtain ⟨hd, h0⟩ := cond_some h
      have e := of_decide_eq_true hd
      subst e
      obtain ⟨y, a, h1, h2⟩ := Sh.sound hO s v _ _ h0
      refine ⟨y, a, h1, h2.alive, by rw [hob]; rfl, fun objs => ?_⟩
      obtain ⟨news, g1, g2, g3⟩ := h2.lie objs
      refine ⟨news, .box d (Sh.lay s y objs).1, by show (Sh.lay s y objs).2.set o _ = _; rw [g1], g2, fun ob2 μ2 e1 e2 => ?_, fun ob2 μ2 hag e1 e2 => ?_⟩
      · unfold Later; rw [e1]; exact ⟨⟨v, hob⟩, e2⟩
      · obtain ⟨k1, k2⟩ := g3 ob2 μ2 hag
        refine ⟨?_, k2⟩
        have hor := hO.each o
        unfold OR at hor ⊢
        rw [e1, e2]
        simp only [hob] at hor ⊢
        obtain ⟨b, cs, t, m1, m2, m3, m4⟩ := hor
        exact ⟨b, cs, t, m1, m2, (h2.form objs).2.2.2 d m3, k1 _ m4⟩
    · cases h
  | _ => simp only [obTake, reduceCtorEq] at h
theorem objs_sound (hO : Objs w A S.ob μ) : ∀ (l : List (Nat × Sh)) (K : (shsOf l).den → List (Option Nat) → Option ρ) (r : ρ), objsTake S l K = some r → (l.map (·.1)).Nodup →
    ∃ z b, K z b = some r ∧ (∀ x ∈ used b, (S.ob x).alive = true) ∧ (∀ x ∈ l.map (·.1), (S.ob x).alive = true) ∧ ∀ objs, (∀ x ∈ l.map (·.1), x < objs.length) →
      (layObs l z objs).length = objs.length + b.length ∧ (∀ m, m < objs.length → m ∉ l.map (·.1) → (layObs l z objs)[m]? = objs[m]?) ∧
      ∀ (ob2 : Nat → OB) (μ2 : Nat → Value), (∀ m ∈ l.map (·.1), ob2 m = obs (layObs l z objs) m ∧ μ2 m = μ m) → (∀ i, i < b.length → ob2 (objs.length + i) = obs (layObs l z objs) (objs.length + i) ∧ μ2 (objs.length + i) = srcV μ (b.getD i none)) →
        (∀ m ∈ l.map (·.1), Later S.ob μ ob2 μ2 m ∧ OR w A ob2 μ2 m) ∧ (∀ i, i < b.length → OR w A ob2 μ2 (objs.length + i))
  | [], K, r, h, _ => by
    simp only [objsTake] at h
    exact ⟨(), [], h, fun x hx => (by cases hx), fun x hx => (by cases hx), fun objs _ => ⟨rfl, fun _ _ _ => rfl, fun ob2 μ2 _ _ => ⟨fun m hm => (by cases hm), fun i hi => (by cases hi)⟩⟩⟩
  | p :: l, K, r, h, hnd => by
    simp only [objsTake] at h
    simp only [List.map_cons, List.nodup_cons] at hnd
    obtain ⟨y, a, h1, h2, h3, h4⟩ := ob_sound hO p.2 p.1 _ _ h
    obtain ⟨z, b, h5, h6, h7, h8⟩ := objs_sound hO l _ _ h1 hnd.2
    refine ⟨(y, z), a ++ b, h5, fun x hx => ?_, fun x hx => ?_, fun objs hr => ?_⟩
    · rw [used_append, List.mem_append] at hx
      exact hx.elim (h2 x) (h6 x)
    · rcases List.mem_cons.1 hx with rfl | hx
      · exact h3
      · exact h7 x hx
    · obtain ⟨news, cont, g1, g2, g3, g4⟩ := h4 objs
      have hp : p.1 < objs.length := hr p.1 (by simp)
      have hlen : (layOb p.2 y p.1 objs).length = objs.length + a.length := by rw [g1]; simp [g2]
      obtain ⟨k1, k2, k3⟩ := h8 (layOb p.2 y p.1 objs) (fun x hx => by rw [hlen]; have := hr x (by simp at hx ⊢; exact .inr hx); omega)
      have hroot : ∀ m, m < objs.length + a.length → m ∉ l.map (·.1) → (layObs l z (layOb p.2 y p.1 objs))[m]? = ((objs ++ news).set p.1 cont)[m]? := fun m hm hn => by
        rw [k2 m (by rw [hlen]; exact hm) hn, g1]
      refine ⟨by show (layObs l z (layOb p.2 y p.1 objs)).length = _; rw [k1, hlen, List.length_append]; omega, fun m hm hn => ?_, fun ob2 μ2 e1 e2 => ?_⟩
      · show (layObs l z (layOb p.2 y p.1 objs))[m]? = _
        simp only [List.map_cons, List.mem_cons, not_or] at hn
        rw [hroot m (by omega) hn.2, List.getElem?_set, if_neg (fun e => hn.1 e.symm), List.getElem?_append_left hm]
      · have e1' : ∀ m ∈ (p :: l).map (·.1), ob2 m = obs (layObs l z (layOb p.2 y p.1 objs)) m ∧ μ2 m = μ m := e1
        have e2' : ∀ i, i < (a ++ b).length → ob2 (objs.length + i) = obs (layObs l z (layOb p.2 y p.1 objs)) (objs.length + i) ∧ μ2 (objs.length + i) = srcV μ ((a ++ b).getD i none) := e2
        obtain ⟨q1, q2⟩ := e1' p.1 (by simp)
        have hcont : ob2 p.1 = cont := by
          rw [q1]
          simp only [obs, List.getD, hroot p.1 (by omega) hnd.1, List.getElem?_set]
          rw [if_pos trivial, if_pos (by simp; omega)]; rfl
        have hag : Agrees μ objs.length a news ob2 μ2 := fun i hi => by
          obtain ⟨m1, m2⟩ := e2' i (by simp; omega)
          have hnm : objs.length + i ∉ l.map (·.1) := fun hm => by have := hr _ (List.mem_cons_of_mem _ hm); omega
          refine ⟨?_, ?_⟩
          · rw [m1]
            simp only [obs, List.getD, hroot _ (by omega) hnm, List.getElem?_set]
            rw [if_neg (by omega), List.getElem?_append_right (by omega)]
            rw [show objs.length + i - objs.length = i from by omega]
          · rw [m2, List.getD, List.getElem?_append_left hi]; rfl
        obtain ⟨f1, f2⟩ := g4 ob2 μ2 hag hcont q2
        obtain ⟨f3, f4⟩ := k3 ob2 μ2 (fun m hm => e1' m (List.mem_cons_of_mem _ hm)) (fun i hi => by
          rw [hlen]
          obtain ⟨m1, m2⟩ := e2' (a.length + i) (by simp; omega)
          rw [← Nat.add_assoc] at m1 m2
          refine ⟨m1, ?_⟩
          rw [m2, List.getD, List.getElem?_append_right (by omega)]
          rw [show a.length + i - a.length = i from by omega]; rfl)
        refine ⟨fun m hm => ?_, fun i hi => ?_⟩
        · rcases List.mem_cons.1 hm with rfl | hm
          · exact ⟨g3 ob2 μ2 hcont q2, f1⟩
          · exact f3 m hm
        · by_cases hil : i < a.length
          · exact f2 i hil
          · have := f4 (i - a.length) (by simp at hi; omega)
            rwa [hlen, show objs.length + a.length + (i - a.length) = objs.length + i from by omega] at this

theorem killAll_len : ∀ (g : List Nat) (l : List OB), (killAll g l).length = l.length
  | [], l => rfl
  | o :: g, l => by simp only [killAll]; rw [killAll_len g]; simp
theorem killAll_get : ∀ (g : List Nat) (l : List OB) (m : Nat), obs (killAll g l) m = if m ∈ g then .dead else obs l m
  | [], l, m => by simp [killAll]
  | o :: g, l, m => by
    simp only [killAll]
    rw [killAll_get g]
    by_cases h : m ∈ g
    · simp [h]
    · simp only [h, if_false, List.mem_cons, or_false]
      simp only [obs, List.getD, List.getElem?_set]
      by_cases e : m = o
      · subst e; simp; split <;> rfl
      · rw [if_neg (fun h => e h.symm), if_neg e]
theorem anyAll_len : ∀ (g : List Nat) (l : List PV), (anyAll g l).length = l.length
  | [], l => rfl
  | o :: g, l => by simp only [anyAll]; rw [anyAll_len g]; simp
theorem anyAll_get : ∀ (g : List Nat) (l : List PV) (t : Nat), (anyAll g l)[t]? = if t ∈ g then (l[t]?).map (fun _ => .any) else l[t]?
  | [], l, t => by simp [anyAll]
  | o :: g, l, t => by
    simp only [anyAll]
    rw [anyAll_get g]
    simp only [List.getElem?_set, List.mem_cons]
    by_cases h : t ∈ g
    · simp only [h, or_true, if_true]
      by_cases e : o = t
      · subst e
        rw [if_pos rfl]
        by_cases hl : o < l.length
        · rw [if_pos hl, List.getElem?_eq_getElem hl]; rfl
        · rw [if_neg hl]
          have : l[o]? = none := by simp; omega
          rw [this]
      · rw [if_neg e]
    · simp only [h, or_false, if_false]
      by_cases e : o = t
      · subst e
        rw [if_pos rfl, if_pos rfl]
        by_cases hl : o < l.length
        · rw [if_pos hl, List.getElem?_eq_getElem hl]; rfl
        · rw [if_neg hl]
          have : l[o]? = none := by simp; omega
          rw [this]; rfl
      · rw [if_neg e, if_neg (fun h => e h.symm)]
theorem within_iff {n0 : Nat} {l : List Nat} : ∀ {m : List Nat}, within n0 l m = true ↔ ∀ o ∈ m, n0 ≤ o ∨ o ∈ l
  | [] => by simp [within]
  | o :: m => by simp [within, within_iff (m := m), mem_iff]
theorem used_mem {l : List (Option Nat)} {o : Nat} : o ∈ used l ↔ some o ∈ l := by
  induction l with
  | nil => simp [used]
  | cons x l ih => cases x <;> simp [used, ih]
theorem used_inj : ∀ {l : List (Option Nat)} {i j o : Nat}, (used l).Nodup → l[i]? = some (some o) → l[j]? = some (some o) → i = j
  | [], i, j, o, _, h, _ => by simp at h
  | x :: l, 0, 0, o, _, _, _ => rfl
  | x :: l, 0, j + 1, o, hn, h1, h2 => by
    simp only [List.getElem?_cons_zero, Option.some.injEq] at h1
    simp only [List.getElem?_cons_succ] at h2
    subst h1
    simp only [used, List.nodup_cons] at hn
    exact absurd (used_mem.2 (List.mem_of_getElem? h2)) hn.1
  | x :: l, i + 1, 0, o, hn, h1, h2 => by
    simp only [List.getElem?_cons_zero, Option.some.injEq] at h2
    simp only [List.getElem?_cons_succ] at h1
    subst h2
    simp only [used, List.nodup_cons] at hn
    exact absurd (used_mem.2 (List.mem_of_getElem? h1)) hn.1
  | x :: l, i + 1, j + 1, o, hn, h1, h2 => by
    simp only [List.getElem?_cons_succ] at h1 h2
    have hn' : (used l).Nodup := by
      cases x with
      | none => exact hn
      | some y => simp only [used, List.nodup_cons] at hn; exact hn.2
    rw [used_inj hn' h1 h2]
/-- what holds where ways meet -/
theorem join_sound {c : Cx} {s : SSh} {S0 S' : St} {ds : List Nat} {K : s.den → Option ρ} {r : ρ} {μ0 μ' : Nat → Value} {a : Act} (hfit : s.fit S0 ds = true) (h : s.take S0.objs.length S' K = some r) (hsr : SR c S' μ' a w)
    (hag : Ag S0.objs.length ds S0 μ0 S' μ') (ht0 : S0.touched = []) :
    ∃ y, K y = some r ∧ ∃ μ2, SR c (s.lay S0 ds y) μ2 a w ∧ Ag S0.objs.length ds S0 μ0 (s.lay S0 ds y) μ2 := by
  simp only [SSh.fit, Bool.and_eq_true, unseen] at hfit
  rw [boundL_iff, boundO_iff, within0_iff, boundL_iff, nodup_iff, disj_iff] at hfit
  obtain ⟨⟨hun1, hun2⟩, hpos, hroots, hrnd, hdis⟩ := hfit
  unfold SSh.take at h
  obtain ⟨z, b, h, hb1, hb2, hb3⟩ := objs_sound hsr.objs _ _ _ h hrnd
  obtain ⟨y, e, h, he1, he2⟩ := slots_sound hsr.objs hsr.slots _ _ _ h
  obtain ⟨hc, h⟩ := cond_some h
  simp only [Bool.and_eq_true] at hc
  rw [nodup_iff, within_iff, within_iff] at hc
  obtain ⟨hnd, hgone, htouch, hlen'⟩ := hc
  refine ⟨(y, z), h, ?_⟩
  obtain ⟨q1, q2, q3⟩ := hb3 (killAll s.gone S0.objs) (fun x hx => by rw [killAll_len]; exact hroots x hx)
  rw [killAll_len] at q1
  obtain ⟨news, p1, p2, p3, p4, p5⟩ := he2 (anyAll ds S0.slots) (layObs s.objs z (killAll s.gone S0.objs))
  generalize hS2 : s.lay S0 ds (y, z) = S2
  have hobjs : S2.objs = layObs s.objs z (killAll s.gone S0.objs) ++ news := by subst hS2; exact p1
  have hslots : S2.slots = (laySlots s.slots y (anyAll ds S0.slots) (layObs s.objs z (killAll s.gone S0.objs))).1 := by subst hS2; rfl
  have htou : S2.touched = s.gone ++ s.objs.map (·.1) := by subst hS2; rfl
  let μ2 : Nat → Value := fun m => if m < S0.objs.length then μ' m else srcV μ' ((b ++ e).getD (m - S0.objs.length) none)
  have hμ1 : ∀ m, m < S0.objs.length → μ2 m = μ' m := fun m hm => by show (if _ then _ else _) = _; rw [if_pos hm]
  have hμ2 : ∀ i, μ2 (S0.objs.length + i) = srcV μ' ((b ++ e).getD i none) := fun i => by
    show (if _ then _ else _) = _
    rw [if_neg (by omega), Nat.add_sub_cancel_left]
  have hob2 : ∀ m, S2.ob m = obs S2.objs m := fun m => rfl
  have hlen2 : S2.objs.length = S0.objs.length + (b.length + e.length) := by rw [hobjs]; simp [q1, p2]; omega
  have hobA : ∀ m, m < S0.objs.length + b.length → S2.ob m = obs (layObs s.objs z (killAll s.gone S0.objs)) m := fun m hm => by
    simp only [hob2, hobjs, obs, List.getD]
    rw [List.getElem?_append_left (by omega)]
  obtain ⟨hR, hB⟩ := q3 S2.ob μ2 (fun m hm => ⟨hobA m (by have := hroots m hm; omega), hμ1 m (hroots m hm)⟩) (fun i hi => by
    rw [killAll_len]
    refine ⟨hobA _ (by omega), ?_⟩
    rw [hμ2, List.getD, List.getElem?_append_left hi]; rfl)
  rw [killAll_len] at hB
  obtain ⟨hE, hSl⟩ := p5 S2.ob μ2 (fun i hi => by
    rw [q1, Nat.add_assoc, hμ2]
    refine ⟨?_, ?_⟩
    · simp only [hob2, hobjs, obs, List.getD]
      rw [List.getElem?_append_right (by omega), q1]
      rw [show S0.objs.length + (b.length + i) - (S0.objs.length + b.length) = i from by omega]
    · rw [List.getD, List.getElem?_append_right (by omega)]
      rw [show b.length + i - b.length = i from by omega]; rfl)
  rw [q1] at hE
  have hother : ∀ m, m < S0.objs.length → m ∉ s.objs.map (·.1) → S2.ob m = if m ∈ s.gone then .dead else S0.ob m := fun m hm hn => by
    rw [hobA m (by omega)]
    have := q2 m (by rw [killAll_len]; exact hm) hn
    have e1 : obs (layObs s.objs z (killAll s.gone S0.objs)) m = obs (killAll s.gone S0.objs) m := by simp only [obs, List.getD, this]
    rw [e1, killAll_get]; rfl
  have hsame : ∀ m, m < S0.objs.length → m ∉ s.objs.map (·.1) → m ∉ s.gone → S2.ob m = S'.ob m ∧ S'.ob m = S0.ob m := fun m hm hn hg => by
    have e1 : S'.ob m = S0.ob m := by
      rcases hag.ob m hm with h | h
      · exact h
      · rcases htouch m h with h1 | h1
        · omega
        · rw [List.mem_append] at h1; exact h1.elim (fun h => absurd h hg) (fun h => absurd h hn)
    rw [hother m hm hn, if_neg hg]
    exact ⟨e1.symm, e1⟩
  have hlat : ∀ m, m < S0.objs.length → Later S'.ob μ' S2.ob μ2 m := fun m hm => by
    by_cases hn : m ∈ s.objs.map (·.1)
    · exact (hR m hn).1
    · by_cases hg : m ∈ s.gone
      · unfold Later; rw [hother m hm hn, if_pos hg]; trivial
      · unfold Later
        rw [(hsame m hm hn hg).1, hμ1 m hm]
        cases S'.ob m <;> simp
  have horA : ∀ m, OR w (av c S'.ob μ') S2.ob μ2 m := fun m => by
    rcases Nat.lt_or_ge m S0.objs.length with hm | hm
    · by_cases hn : m ∈ s.objs.map (·.1)
      · exact (hR m hn).2
      · by_cases hg : m ∈ s.gone
        · unfold OR; rw [hother m hm hn, if_pos hg]; trivial
        · obtain ⟨e1, e2⟩ := hsame m hm hn hg
          refine (hsr.objs.each m).later (Keep.refl None w) (fun _ _ h => h) (fun _ h => h.elim) (.inl e1) (fun _ => hμ1 m hm) (fun x h1 h2 => ⟨fun h => h.elim, own_lt hsr ⟨m, h1, h2⟩⟩) (fun x hx => ?_)
          rw [e2] at hx
          obtain ⟨b', hb', hx⟩ := ob_oids_mem hx
          exact hlat x (hun2 b' hb' x hx)
    · rcases Nat.lt_or_ge m S2.objs.length with h1 | h1
      · rcases Nat.lt_or_ge m (S0.objs.length + b.length) with h2 | h2
        · have := hB (m - S0.objs.length) (by omega)
          rwa [show S0.objs.length + (m - S0.objs.length) = m from by omega] at this
        · have := hE (m - (S0.objs.length + b.length)) (by omega)
          rwa [show S0.objs.length + b.length + (m - (S0.objs.length + b.length)) = m from by omega] at this
      · unfold OR
        have : S2.objs[m]? = none := by simp; omega
        have : S2.ob m = .dead := by simp [St.ob, List.getD, this]
        rw [this]; trivial
  have hsrc : ∀ m x, (S2.ob m).alive = true → blkOf (μ2 m) = some x → ∃ o, (S'.ob o).alive = true ∧ blkOf (μ' o) = some x ∧ ((m < S0.objs.length ∧ o = m ∧ m ∉ s.gone) ∨ ∃ i, m = S0.objs.length + i ∧ (b ++ e)[i]? = some (some o)) := fun m x h1 h2 => by
    rcases Nat.lt_or_ge m S0.objs.length with hm | hm
    · rw [hμ1 m hm] at h2
      by_cases hn : m ∈ s.objs.map (·.1)
      · exact ⟨m, hb2 m hn, h2, .inl ⟨hm, rfl, hdis m hn⟩⟩
      · by_cases hg : m ∈ s.gone
        · rw [hother m hm hn, if_pos hg] at h1; cases h1
        · rw [(hsame m hm hn hg).1] at h1
          exact ⟨m, h1, h2, .inl ⟨hm, rfl, hg⟩⟩
    · have e1 := hμ2 (m - S0.objs.length)
      rw [show S0.objs.length + (m - S0.objs.length) = m from by omega] at e1
      rw [e1, List.getD] at h2
      cases hx : (b ++ e)[m - S0.objs.length]? with
      | none => rw [hx] at h2; simp [srcV, blkOf] at h2
      | some o =>
        cases o with
        | none => rw [hx] at h2; simp [srcV, blkOf] at h2
        | some o =>
          rw [hx] at h2
          have hm2 : o ∈ used (b ++ e) := used_mem.2 (List.mem_of_getElem? hx)
          refine ⟨o, ?_, h2, .inr ⟨m - S0.objs.length, by omega, hx⟩⟩
          rw [used_append, List.mem_append] at hm2
          exact hm2.elim (hb1 o) (he1 o)
  have hown : ∀ x, own S2.ob μ2 x → own S'.ob μ' x := fun x hx => by
    obtain ⟨m, h1, h2⟩ := hx
    obtain ⟨o, h3, h4, _⟩ := hsrc m x h1 h2
    exact ⟨o, h3, h4⟩
  have hav : ∀ x, av c S2.ob μ2 x → av c S'.ob μ' x := fun x hx => hx.imp id (hown x)
  refine ⟨μ2, ⟨hsr.defers, ⟨?_, fun t v htv => ?_⟩, ⟨fun m => ?_, fun m m' x h1 h2 h3 h4 => ?_, fun x hx => .inr hx, fun x hx => hsr.objs.old x (hav x hx)⟩, hsr.keep, fun x hx => hsr.mine x (hown x hx)⟩, ?_⟩
  · rw [hsr.slots.size, hslots, p3, anyAll_len, hag.len]
  · rw [hslots] at htv
    refine VR.later (Keep.refl None w) (fun x _ hx => hav x hx) (fun _ h => h.elim) (fun o _ => Later.refl _ _ o) (hSl (fun t v ht => ?_) t v htv)
    rw [anyAll_get] at ht
    by_cases hd : t ∈ ds
    · rw [if_pos hd] at ht
      cases hx : S0.slots[t]? with
      | none => rw [hx] at ht; cases ht
      | some u => rw [hx] at ht; simp only [Option.map_some, Option.some.injEq] at ht; subst ht; exact .inl rfl
    · rw [if_neg hd] at ht
      have h1 := hsr.slots.each t v (by rw [hag.slot t hd]; exact ht)
      exact VR.later (Keep.refl None w) (fun _ _ h => h) (fun _ h => h.elim) (fun o ho => hlat o (hun1 o (oidsL_mem (List.mem_of_getElem? ht) ho))) h1
  · exact (horA m).later (Keep.refl None w) (fun x _ hx => hav x hx) (fun _ h => h.elim) (.inl rfl) (fun _ => rfl) (fun x h1 h2 => ⟨fun h => h.elim, own_lt hsr (hown x ⟨m, h1, h2⟩)⟩) (fun x _ => Later.refl _ _ x)
  · obtain ⟨o, k1, k2, k3⟩ := hsrc m x h1 h3
    obtain ⟨o', k4, k5, k6⟩ := hsrc m' x h2 h4
    have e1 := hsr.objs.apart o o' x k1 k4 k2 k5
    subst e1
    rcases k3 with ⟨g1, g2, g3⟩ | ⟨i, g1, g2⟩ <;> rcases k6 with ⟨g4, g5, g6⟩ | ⟨j, g4, g5⟩
    · rw [← g2, ← g5]
    · exfalso
      rcases hgone o (used_mem.2 (List.mem_of_getElem? g5)) with h5 | h5
      · omega
      · exact g3 (g2 ▸ h5)
    · exfalso
      rcases hgone o (used_mem.2 (List.mem_of_getElem? g2)) with h5 | h5
      · omega
      · exact g6 (g5 ▸ h5)
    · rw [g1, g4, used_inj hnd g2 g5]
  · refine ⟨by rw [hslots, p3, anyAll_len], fun t ht => ?_, by rw [hlen2]; omega, fun i hi => ?_, fun i hi => (by rw [ht0] at hi; cases hi), fun i hi => (hag.later i hi).trans (hlat i hi)⟩
    · rw [hslots, p4 t (fun hm => ht (hpos t hm)), anyAll_get, if_neg ht]
    · by_cases hn : i ∈ s.objs.map (·.1)
      · exact .inr (by rw [htou]; simp only [List.mem_append]; exact .inr hn)
      · by_cases hg : i ∈ s.gone
        · exact .inr (by rw [htou]; simp only [List.mem_append]; exact .inl hg)
        · obtain ⟨e1, e2⟩ := hsame i hi hn hg
          exact .inl (by rw [e1, e2])
end
end Go.Vm
