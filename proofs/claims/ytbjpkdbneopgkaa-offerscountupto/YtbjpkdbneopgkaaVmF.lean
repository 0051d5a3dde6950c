/- Vm, part 20: where ways meet. Own work. -/
import Derived.Test.YtbjpkdbneopgkaaVmC
import Derived.Test.YtbjpkdbneopgkaaVmB
import Derived.LoopN
import Derived.Maps.RangeRun
import Derived.Laws.Sem
import Derived.KernelRfl
set_option linter.unusedVariables false
set_option linter.unusedSimpArgs false
set_option linter.unusedSectionVars false
namespace Go.Vm
variable [MonotC]
open Go.RowKit
section
variable {w : World} {A : Nat → Prop} {S : St} {μ : Nat → Value} {ρ : Type}
theorem Ty.fits_leaf {v v' : PV} (h1 : v.isAgg = false) (h2 : v'.isAgg = false) {T : Ty} (h : T.fits v = true) : T.fits v' = true := by
  cases T with
  | struct fs => cases v <;> first | (cases h1; done) | (simp [Ty.fits] at h)
  | _ => simp only [Ty.fits, h2]; rfl
theorem TD.fits_leaf {v v' : PV} (h1 : v.isAgg = false) (h2 : v'.isAgg = false) {d : TD} (h : d.fits v = true) : d.fits v' = true := by
  cases d with
  | data T => simp only [TD.fits] at h ⊢; exact Ty.fits_leaf h1 h2 h
  | cell k => simp only [TD.fits, h2]; rfl
  | map K V => simp only [TD.fits, h2]; rfl
  | agg ds => cases v <;> first | (cases h1; done) | (simp [TD.fits] at h)
def srcV (μ : Nat → Value) : Option Nat → Value
  | some o => μ o
  | none => .slice none 0 0
/-- These objects lie from a place on. -/
def Agrees (μ : Nat → Value) (base : Nat) (l : List (Option Nat)) (news : List OB) (ob2 : Nat → OB) (μ2 : Nat → Value) : Prop :=
  ∀ i, i < l.length → ob2 (base + i) = news.getD i .dead ∧ μ2 (base + i) = srcV μ (l.getD i none)
structure Laid (w : World) (A : Nat → Prop) (S : St) (μ : Nat → Value) (v : PV) (l : List (Option Nat)) (lay : List OB → PV × List OB) : Prop where
  alive : ∀ o ∈ used l, (S.ob o).alive = true
  lie : ∀ objs, ∃ news, (lay objs).2 = objs ++ news ∧ news.length = l.length ∧ ∀ ob2 μ2, Agrees μ objs.length l news ob2 μ2 →
    (∀ cs, CR w A S.ob μ v cs → CR w A ob2 μ2 (lay objs).1 cs) ∧ (∀ i, i < l.length → OR w A ob2 μ2 (objs.length + i))
  form : ∀ objs, (lay objs).1.isAny = false ∧ (lay objs).1.isAgg = v.isAgg ∧ (∀ T : Ty, T.fits v = true → T.fits (lay objs).1 = true) ∧ (∀ d : TD, d.fits v = true → d.fits (lay objs).1 = true)
structure Laids (w : World) (A : Nat → Prop) (S : St) (μ : Nat → Value) (vs : List PV) (l : List (Option Nat)) (lay : List OB → List PV × List OB) : Prop where
  alive : ∀ o ∈ used l, (S.ob o).alive = true
  lie : ∀ objs, ∃ news, (lay objs).2 = objs ++ news ∧ news.length = l.length ∧ ∀ ob2 μ2, Agrees μ objs.length l news ob2 μ2 →
    (∀ cs, CRs w A S.ob μ vs cs → CRs w A ob2 μ2 (lay objs).1 cs) ∧ (∀ i, i < l.length → OR w A ob2 μ2 (objs.length + i))
  form : ∀ objs, (∀ T : Tys, T.fits vs = true → T.fits (lay objs).1 = true) ∧ (∀ d : TDs, d.fits vs = true → d.fits (lay objs).1 = true)
theorem used_append (a b : List (Option Nat)) : used (a ++ b) = used a ++ used b := by
  induction a with
  | nil => rfl
  | cons x a ih => cases x <;> simp [used, ih]
theorem Agrees.left {base : Nat} {l m : List (Option Nat)} {n1 n2 : List OB} {ob2 : Nat → OB} {μ2 : Nat → Value} (h : Agrees μ base (l ++ m) (n1 ++ n2) ob2 μ2) (hl : n1.length = l.length) : Agrees μ base l n1 ob2 μ2 := fun i hi => by
  have := h i (by simp; omega)
  rw [List.getD, List.getD, List.getElem?_append_left (by omega), List.getElem?_append_left hi] at this
  exact this
theorem Agrees.right {base : Nat} {l m : List (Option Nat)} {n1 n2 : List OB} {ob2 : Nat → OB} {μ2 : Nat → Value} (h : Agrees μ base (l ++ m) (n1 ++ n2) ob2 μ2) (hl : n1.length = l.length) : Agrees μ (base + l.length) m n2 ob2 μ2 := fun i hi => by
  have := h (l.length + i) (by simp; omega)
  rw [List.getD, List.getD, List.getElem?_append_right (by omega), List.getElem?_append_right (by omega)] at this
  rw [Nat.add_assoc]
  rw [show l.length + i - n1.length = i from by omega, show l.length + i - l.length = i from by omega] at this
  exact this
theorem Laid.leaf {v u : PV} (hv : v.isAgg = false) (hu : u.isAgg = false) (hn : u.isAny = false) (h : ∀ ob2 μ2 cs, CR w A S.ob μ v cs → CR w A ob2 μ2 u cs) : Laid w A S μ v [] (fun l => (u, l)) :=
  ⟨fun o ho => (by cases ho), fun objs => ⟨[], by simp, rfl, fun ob2 μ2 _ => ⟨fun cs hc => h ob2 μ2 cs hc, fun i hi => (by cases hi)⟩⟩,
    fun objs => ⟨hn, by rw [hu, hv], fun T hT => Ty.fits_leaf hv hu hT, fun d hd => TD.fits_leaf hv hu hd⟩⟩
theorem one_leaf {v : PV} (h : v.isOne = true) : v.isAgg = false := by cases v <;> first | rfl | cases h
theorem one_len {v : PV} {A' : Nat → Prop} {ob' : Nat → OB} {μ' : Nat → Value} {cs : List Value} (h : v.isOne = true) (hc : CR w A' ob' μ' v cs) : cs.length = 1 := by
  cases v <;> first
    | (cases h; done)
    | (simp only [CR] at hc; exact hc)
    | (simp only [CR] at hc; rw [hc]; rfl)
    | (simp only [CR] at hc; obtain ⟨v, e, _⟩ := hc; rw [e]; rfl)
mutual
theorem Sh.sound (hO : Objs w A S.ob μ) : ∀ (s : Sh) (v : PV) (K : s.den → List (Option Nat) → Option ρ) (r : ρ), Sh.take S s v K = some r → ∃ y l, K y l = some r ∧ Laid w A S μ v l (Sh.lay s y)
  | .int k, v, K, r, h => by
    simp only [Sh.take] at h
    split at h
    · obtain ⟨hk, h2⟩ := cond_some h
      have e := of_decide_eq_true hk
      subst e
      exact ⟨_, _, h2, .leaf rfl rfl rfl (fun _ _ cs hc => by simpa only [CR] using hc)⟩
    · cases h
  | .bool, v, K, r, h => by
    simp only [Sh.take] at h
    split at h
    · exact ⟨_, _, h, .leaf rfl rfl rfl (fun _ _ cs hc => by simpa only [CR] using hc)⟩
    · cases h
  | .str, v, K, r, h => by
    simp only [Sh.take] at h
    split at h
    · exact ⟨_, _, h, .leaf rfl rfl rfl (fun _ _ cs hc => by simpa only [CR] using hc)⟩
    · cases h
  | .sl T, v, K, r, h => by
    simp only [Sh.take] at h
    split at h
    · obtain ⟨ys, h1, h⟩ := optK_some h
      obtain ⟨e, h1⟩ := castL_some h1
      subst e; subst h1
      exact ⟨_, _, h, .leaf rfl rfl rfl (fun _ _ cs hc => by simpa only [CR] using hc)⟩
    · refine ⟨_, _, h, .leaf rfl rfl rfl (fun _ _ cs hc => ?_)⟩
      simp only [CR] at hc ⊢
      subst hc
      simp only [DR]
      exact ⟨none, 0, rfl, ⟨Nat.le_refl _, Nat.zero_le _⟩, .inl rfl⟩
    · cases h
  | .row T, v, K, r, h => by
    simp only [Sh.take] at h
    split at h
    · rename_i o
      split at h
      · rename_i U xs hob
        obtain ⟨ys, h1, h⟩ := optK_some h
        obtain ⟨e, h1⟩ := castL_some h1
        subst e; subst h1
        refine ⟨_, _, h, ⟨fun x hx => by simp [used] at hx; subst hx; rw [hob]; rfl, fun objs => ⟨[.row U xs], rfl, rfl, fun ob2 μ2 hag => ?_⟩, fun objs => ⟨rfl, rfl, fun T hT => Ty.fits_leaf (v := .row o) rfl rfl hT, fun d hd => TD.fits_leaf (v := .row o) rfl rfl hd⟩⟩⟩
        obtain ⟨h2, h3⟩ := hag 0 (by simp)
        simp only [Nat.add_zero, List.getD_cons_zero, srcV] at h2 h3
        refine ⟨fun cs hc => ?_, fun i hi => ?_⟩
        · simp only [CR, Sh.lay] at hc ⊢
          obtain ⟨x, e1, e2, e3⟩ := hc
          simp only [hob] at e3
          exact ⟨x, e1, e2, by rw [h2]; simp only; rw [h3]; exact e3⟩
        · have : i = 0 := by simpa using hi
          subst this
          have hor := hO.each o
          unfold OR at hor ⊢
          rw [Nat.add_zero, h2, h3]
          simpa only [hob] using hor
      · cases h
    · refine ⟨_, _, h, ⟨fun x hx => by simp [used] at hx, fun objs => ⟨[.row T []], rfl, rfl, fun ob2 μ2 hag => ?_⟩, fun objs => ⟨rfl, rfl, fun T hT => Ty.fits_leaf (v := .nil) rfl rfl hT, fun d hd => TD.fits_leaf (v := .nil) rfl rfl hd⟩⟩⟩
      obtain ⟨h2, h3⟩ := hag 0 (by simp)
      simp only [Nat.add_zero, List.getD_cons_zero, srcV] at h2 h3
      refine ⟨fun cs hc => ?_, fun i hi => ?_⟩
      · simp only [CR, Sh.lay] at hc ⊢
        exact ⟨_, hc, rfl, by rw [h2]; simp only; rw [h3]; exact .inl rfl⟩
      · have : i = 0 := by simpa using hi
        subst this
        unfold OR
        rw [Nat.add_zero, h2]
        exact .inl ⟨rfl, h3⟩
    · cases h
  | .box d s, v, K, r, h => by
    simp only [Sh.take] at h
    split at h
    · rename_i o
      split at h
      · rename_i d' v hob
        obtain ⟨hd, h0⟩ := cond_some h
        have e := of_decide_eq_true hd
        subst e
        obtain ⟨y, l, h1, h2⟩ := Sh.sound hO s v _ _ h0
        refine ⟨y, _, h1, ⟨fun x hx => ?_, fun objs => ?_, fun objs => ⟨rfl, rfl, fun T hT => Ty.fits_leaf (v := .ptr o []) rfl rfl hT, fun d hd => TD.fits_leaf (v := .ptr o []) rfl rfl hd⟩⟩⟩
        · rw [used_append, List.mem_append] at hx
          rcases hx with hx | hx
          · exact h2.alive x hx
          · simp [used] at hx; subst hx; rw [hob]; rfl
        · obtain ⟨news, g1, g2, g3⟩ := h2.lie objs
          refine ⟨news ++ [.box d (Sh.lay s y objs).1], by simp only [Sh.lay, g1, List.append_assoc], by simp [g2], fun ob2 μ2 hag => ?_⟩
          obtain ⟨k1, k2⟩ := g3 ob2 μ2 (hag.left g2)
          obtain ⟨k3, k4⟩ := (hag.right g2) 0 (by simp)
          simp only [Nat.add_zero, List.getD_cons_zero, srcV] at k3 k4
          have hlen : (Sh.lay s y objs).2.length = objs.length + l.length := by rw [g1]; simp [g2]
          refine ⟨fun cs hc => ?_, fun i hi => ?_⟩
          · simp only [CR, Sh.lay, hlen] at hc ⊢
            obtain ⟨x, e1, e2, e3⟩ := hc
            simp only [hob] at e3
            exact ⟨x, e1, e2, by rw [k3]; simp only; rw [k4]; exact e3⟩
          · by_cases hil : i < l.length
            · exact k2 i hil
            · have : i = l.length := by simp at hi; omega
              subst this
              have hor := hO.each o
              unfold OR at hor ⊢
              rw [k3, k4]
              simp only [hob] at hor ⊢
              obtain ⟨b, cs, t, e1, e2, e3, e4, e5⟩ := hor
              exact ⟨b, cs, t, e1, e2, (h2.form objs).2.2.2 d e3, k1 _ e4, e5⟩
      · cases h
    · cases h
  | .agg s, v, K, r, h => by
    simp only [Sh.take] at h
    split at h
    · rename_i vs
      obtain ⟨y, l, h1, h2⟩ := Shs.sound hO s vs _ _ h
      refine ⟨y, l, h1, ⟨h2.alive, fun objs => ?_, fun objs => ⟨rfl, rfl, fun T hT => ?_, fun d hd => ?_⟩⟩⟩
      · obtain ⟨news, g1, g2, g3⟩ := h2.lie objs
        refine ⟨news, g1, g2, fun ob2 μ2 hag => ?_⟩
        obtain ⟨k1, k2⟩ := g3 ob2 μ2 hag
        exact ⟨fun cs hc => by simp only [CR, Sh.lay] at hc ⊢; exact k1 cs hc, k2⟩
      · cases T <;> simp only [Ty.fits, Sh.lay] at hT ⊢ <;> first | exact (h2.form objs).1 _ hT | simp [PV.isAgg] at hT
      · cases d with
        | data T => cases T <;> simp only [TD.fits, Ty.fits, Sh.lay] at hd ⊢ <;> first | exact (h2.form objs).1 _ hd | simp [PV.isAgg] at hd
        | cell k => simp only [TD.fits, Sh.lay] at hd ⊢; simp [PV.isAgg] at hd
        | map K V => simp only [TD.fits, Sh.lay] at hd ⊢; simp [PV.isAgg] at hd
        | agg ds => simp only [TD.fits, Sh.lay] at hd ⊢; exact (h2.form objs).2 _ hd
    · cases h
  | .map T U, v, K, r, h => by
    simp only [Sh.take] at h
    split at h
    · rename_i o
      split at h
      · rename_i T' U' c hob
        obtain ⟨ys, h1, h⟩ := optK_some h
        obtain ⟨e1, e2, h1⟩ := castM_some h1
        subst e1; subst e2; subst h1
        refine ⟨_, _, h, ⟨fun x hx => by simp [used] at hx; subst hx; rw [hob]; rfl, fun objs => ⟨[.map T' U' c], rfl, rfl, fun ob2 μ2 hag => ?_⟩, fun objs => ⟨rfl, rfl, fun T hT => Ty.fits_leaf (v := .mp o) rfl rfl hT, fun d hd => TD.fits_leaf (v := .mp o) rfl rfl hd⟩⟩⟩
        obtain ⟨h2, h3⟩ := hag 0 (by simp)
        simp only [Nat.add_zero, List.getD_cons_zero, srcV] at h2 h3
        refine ⟨fun cs hc => ?_, fun i hi => ?_⟩
        · simp only [CR, Sh.lay] at hc ⊢
          obtain ⟨x, e1, e2, e3⟩ := hc
          simp only [hob] at e3
          exact ⟨x, e1, e2, by rw [h2]; simp only; rw [h3]; exact e3⟩
        · have : i = 0 := by simpa using hi
          subst this
          have hor := hO.each o
          unfold OR at hor ⊢
          rw [Nat.add_zero, h2, h3]
          simpa only [hob] using hor
      · cases h
    · cases h
  | .bytes, v, K, r, h => by
    simp only [Sh.take] at h
    split at h
    · rename_i o
      split at h
      · rename_i s hob
        refine ⟨_, _, h, ⟨fun x hx => by simp [used] at hx; subst hx; rw [hob]; rfl, fun objs => ⟨[.bytes s], rfl, rfl, fun ob2 μ2 hag => ?_⟩, fun objs => ⟨rfl, rfl, fun T hT => Ty.fits_leaf (v := .row o) rfl rfl hT, fun d hd => TD.fits_leaf (v := .row o) rfl rfl hd⟩⟩⟩
        obtain ⟨h2, h3⟩ := hag 0 (by simp)
        simp only [Nat.add_zero, List.getD_cons_zero, srcV] at h2 h3
        refine ⟨fun cs hc => ?_, fun i hi => ?_⟩
        · simp only [CR, Sh.lay] at hc ⊢
          obtain ⟨x, e1, e2, e3⟩ := hc
          simp only [hob] at e3
          exact ⟨x, e1, e2, by rw [h2]; simp only; rw [h3]; exact e3⟩
        · have : i = 0 := by simpa using hi
          subst this
          have hor := hO.each o
          unfold OR at hor ⊢
          rw [Nat.add_zero, h2, h3]
          simpa only [hob] using hor
      · cases h
    · refine ⟨_, _, h, ⟨fun x hx => by simp [used] at hx, fun objs => ⟨[.bytes ByteArray.empty], rfl, rfl, fun ob2 μ2 hag => ?_⟩, fun objs => ⟨rfl, rfl, fun T hT => Ty.fits_leaf (v := .nil) rfl rfl hT, fun d hd => TD.fits_leaf (v := .nil) rfl rfl hd⟩⟩⟩
      obtain ⟨h2, h3⟩ := hag 0 (by simp)
      simp only [Nat.add_zero, List.getD_cons_zero, srcV] at h2 h3
      refine ⟨fun cs hc => ?_, fun i hi => ?_⟩
      · simp only [CR, Sh.lay] at hc ⊢
        exact ⟨_, hc, rfl, by rw [h2]; simp only; rw [h3]⟩
      · have : i = 0 := by simpa using hi
        subst this
        unfold OR
        rw [Nat.add_zero, h2]
        exact .inl ⟨rfl, h3⟩
    · cases h
theorem Shs.sound (hO : Objs w A S.ob μ) : ∀ (s : Shs) (vs : List PV) (K : s.den → List (Option Nat) → Option ρ) (r : ρ), Shs.take S s vs K = some r → ∃ y l, K y l = some r ∧ Laids w A S μ vs l (Shs.lay s y)
  | .nil, vs, K, r, h => by
    simp only [Shs.take] at h
    split at h
    · exact ⟨(), [], h, ⟨fun o ho => (by cases ho), fun objs => ⟨[], by simp [Shs.lay], rfl, fun ob2 μ2 _ => ⟨fun cs hc => by simpa only [CRs, Shs.lay] using hc, fun i hi => (by cases hi)⟩⟩, fun objs => ⟨fun T hT => hT, fun d hd => hd⟩⟩⟩
    · cases h
  | .cons s t, vs, K, r, h => by
    simp only [Shs.take] at h
    split at h
    · rename_i v vs
      obtain ⟨y, l, h1, h2⟩ := Sh.sound hO s v _ _ h
      obtain ⟨z, m, h3, h4⟩ := Shs.sound hO t vs _ _ h1
      refine ⟨(y, z), l ++ m, h3, ⟨fun o ho => ?_, fun objs => ?_, fun objs => ⟨fun T hT => ?_, fun d hd => ?_⟩⟩⟩
      · rw [used_append, List.mem_append] at ho
        exact ho.elim (h2.alive o) (h4.alive o)
      · obtain ⟨n1, g1, g2, g3⟩ := h2.lie objs
        obtain ⟨n2, g4, g5, g6⟩ := h4.lie (Sh.lay s y objs).2
        refine ⟨n1 ++ n2, by show (Shs.lay t z (Sh.lay s y objs).2).2 = _; rw [g4, g1, List.append_assoc], by simp [g2, g5], fun ob2 μ2 hag => ?_⟩
        have hlen : (Sh.lay s y objs).2.length = objs.length + l.length := by rw [g1]; simp [g2]
        obtain ⟨k1, k2⟩ := g3 ob2 μ2 (hag.left g2)
        obtain ⟨k3, k4⟩ := g6 ob2 μ2 (by rw [hlen]; exact hag.right g2)
        refine ⟨fun cs hc => ?_, fun i hi => ?_⟩
        · simp only [CRs, Shs.lay] at hc ⊢
          obtain ⟨c1, c2, e1, e2, e3⟩ := hc
          exact ⟨c1, c2, e1, k1 c1 e2, k3 c2 e3⟩
        · by_cases hil : i < l.length
          · exact k2 i hil
          · have := k4 (i - l.length) (by simp at hi; omega)
            rwa [hlen, show objs.length + l.length + (i - l.length) = objs.length + i from by omega] at this
      · cases T with
        | nil => simp [Tys.fits] at hT
        | cons t1 ts =>
          simp only [Tys.fits, Shs.lay, Bool.and_eq_true] at hT ⊢
          exact ⟨(h2.form objs).2.2.1 _ hT.1, (h4.form _).1 _ hT.2⟩
      · cases d with
        | nil => simp [TDs.fits] at hd
        | cons t1 ts =>
          simp only [TDs.fits, Shs.lay, Bool.and_eq_true] at hd ⊢
          exact ⟨(h2.form objs).2.2.2 _ hd.1, (h4.form _).2 _ hd.2⟩
    · cases h
  | .skip t, vs, K, r, h => by
    simp only [Shs.take] at h
    split at h
    · rename_i v vs
      obtain ⟨hone, h⟩ := cond_some h
      obtain ⟨y, l, h1, h2⟩ := Shs.sound hO t vs _ _ h
      refine ⟨y, l, h1, ⟨h2.alive, fun objs => ?_, fun objs => ⟨fun T hT => ?_, fun d hd => ?_⟩⟩⟩
      · obtain ⟨news, g1, g2, g3⟩ := h2.lie objs
        refine ⟨news, g1, g2, fun ob2 μ2 hag => ?_⟩
        obtain ⟨k1, k2⟩ := g3 ob2 μ2 hag
        refine ⟨fun cs hc => ?_, k2⟩
        simp only [CRs, Shs.lay] at hc ⊢
        obtain ⟨c1, c2, e1, e2, e3⟩ := hc
        exact ⟨c1, c2, e1, by simpa only [CR] using one_len hone e2, k1 c2 e3⟩
      · cases T with
        | nil => simp [Tys.fits] at hT
        | cons t1 ts =>
          simp only [Tys.fits, Shs.lay, Bool.and_eq_true] at hT ⊢
          exact ⟨Ty.fits_leaf (one_leaf hone) rfl hT.1, (h2.form _).1 _ hT.2⟩
      · cases d with
        | nil => simp [TDs.fits] at hd
        | cons t1 ts =>
          simp only [TDs.fits, Shs.lay, Bool.and_eq_true] at hd ⊢
          exact ⟨TD.fits_leaf (one_leaf hone) rfl hd.1, (h2.form _).2 _ hd.2⟩
    · cases h
end

theorem take_any (s : Sh) (K : s.den → List (Option Nat) → Option ρ) : Sh.take S s .any K = none := by cases s <;> rfl
theorem slots_sound {act : Act} (hO : Objs w A S.ob μ) (hsl : Slots w A S.ob μ S.slots act) : ∀ (l : List (Nat × Sh)) (K : (shsOf l).den → List (Option Nat) → Option ρ) (r : ρ), slotsTake S l K = some r →
    ∃ y a, K y a = some r ∧ (∀ o ∈ used a, (S.ob o).alive = true) ∧ ∀ vs objs, ∃ news, (laySlots l y vs objs).2 = objs ++ news ∧ news.length = a.length ∧ (laySlots l y vs objs).1.length = vs.length ∧
      (∀ t, t ∉ l.map (·.1) → (laySlots l y vs objs).1[t]? = vs[t]?) ∧ ∀ ob2 μ2, Agrees μ objs.length a news ob2 μ2 → (∀ i, i < a.length → OR w A ob2 μ2 (objs.length + i)) ∧
        ((∀ t v, vs[t]? = some v → VR w A ob2 μ2 v (act.tmps.getD t Go.undef)) → ∀ t v, (laySlots l y vs objs).1[t]? = some v → VR w A ob2 μ2 v (act.tmps.getD t Go.undef))
  | [], K, r, h => by
    simp only [slotsTake] at h
    exact ⟨(), [], h, fun o ho => (by cases ho), fun vs objs => ⟨[], by simp [laySlots], rfl, rfl, fun t _ => rfl, fun ob2 μ2 _ => ⟨fun i hi => (by cases hi), fun h => h⟩⟩⟩
  | p :: l, K, r, h => by
    simp only [slotsTake] at h
    obtain ⟨y, a, h1, h2⟩ := Sh.sound hO p.2 _ _ _ h
    obtain ⟨z, b, h3, h4, h5⟩ := slots_sound hO hsl l _ _ h1
    refine ⟨(y, z), a ++ b, h3, fun o ho => ?_, fun vs objs => ?_⟩
    · rw [used_append, List.mem_append] at ho
      exact ho.elim (h2.alive o) (h4 o)
    · obtain ⟨n1, g1, g2, g3⟩ := h2.lie objs
      obtain ⟨n2, g4, g5, g6, g7, g8⟩ := h5 (vs.set p.1 (Sh.lay p.2 y objs).1) (Sh.lay p.2 y objs).2
      have hlen : (Sh.lay p.2 y objs).2.length = objs.length + a.length := by rw [g1]; simp [g2]
      refine ⟨n1 ++ n2, by show (laySlots l z _ (Sh.lay p.2 y objs).2).2 = _; rw [g4, g1, List.append_assoc], by simp [g2, g5], by show (laySlots l z _ _).1.length = _; rw [g6]; simp, fun t ht => ?_, fun ob2 μ2 hag => ?_⟩
      · show (laySlots l z _ _).1[t]? = _
        simp only [List.map_cons, List.mem_cons, not_or] at ht
        rw [g7 t ht.2, List.getElem?_set]
        rw [if_neg (fun e => ht.1 e.symm)]
      · obtain ⟨k1, k2⟩ := g3 ob2 μ2 (hag.left g2)
        obtain ⟨k3, k4⟩ := g8 ob2 μ2 (by rw [hlen]; exact hag.right g2)
        refine ⟨fun i hi => ?_, fun hvs t v ht => k4 (fun t v ht => ?_) t v ht⟩
        · by_cases hil : i < a.length
          · exact k2 i hil
          · have := k3 (i - a.length) (by simp at hi; omega)
            rwa [hlen, show objs.length + a.length + (i - a.length) = objs.length + i from by omega] at this
        · rw [List.getElem?_set] at ht
          by_cases e : p.1 = t
          · subst e
            rw [if_pos rfl] at ht
            split at ht
            · simp only [Option.some.injEq] at ht
              subst ht
              have hv : VR w A S.ob μ (S.slots.getD p.1 .any) (act.tmps.getD p.1 Go.undef) := by
                cases hx : S.slots[p.1]? with
                | none => exact .inl (by simp [List.getD, hx, PV.isAny])
                | some u => simpa [List.getD, hx] using hsl.each p.1 u hx
              obtain ⟨f1, f2, _, _⟩ := h2.form objs
              rcases hv with hv | ⟨hv, hv2⟩
              · have : S.slots.getD p.1 .any = .any := by
                  cases hx : S.slots.getD p.1 .any <;> first | rfl | (rw [hx] at hv; cases hv)
                rw [this, take_any] at h
                cases h
              · exact .inr ⟨k1 _ hv, by rw [f2]; exact hv2⟩
            · cases ht
          · rw [if_neg e] at ht
            exact hvs t v ht
theorem ob_sound (hO : Objs w A S.ob μ) (s : Sh) (o : Nat) (K : s.den → List (Option Nat) → Option ρ) (r : ρ) (h : obTake S s (S.ob o) K = some r) : ∃ y a, K y a = some r ∧ (∀ x ∈ used a, (S.ob x).alive = true) ∧ (S.ob o).alive = true ∧
    ∀ objs : List OB, ∃ news cont, layOb s y o objs = (objs ++ news).set o cont ∧ news.length = a.length ∧ (∀ (ob2 : Nat → OB) (μ2 : Nat → Value), ob2 o = cont → μ2 o = μ o → Later S.ob μ ob2 μ2 o) ∧
      ∀ ob2 μ2, Agrees μ objs.length a news ob2 μ2 → ob2 o = cont → μ2 o = μ o → OR w A ob2 μ2 o ∧ ∀ i, i < a.length → OR w A ob2 μ2 (objs.length + i) := by
  cases s with
  | row T =>
    simp only [obTake] at h
    split at h
    · rename_i U xs hob
      obtain ⟨ys, h1, h⟩ := optK_some h
      obtain ⟨e, h1⟩ := castL_some h1
      subst e; subst h1
      refine ⟨_, _, h, fun x hx => (by cases hx), by rw [hob]; rfl, fun objs => ⟨[], .row U xs, by simp [layOb], rfl, fun ob2 μ2 e1 e2 => ?_, fun ob2 μ2 _ e1 e2 => ⟨?_, fun i hi => (by cases hi)⟩⟩⟩
      · unfold Later; rw [e1]; exact ⟨⟨xs, hob⟩, e2⟩
      · have hor := hO.each o
        unfold OR at hor ⊢
        rw [e1, e2]
        simpa only [hob] using hor
    · cases h
  | box d s =>
    simp only [obTake] at h
    split at h
    · rename_i d' v hob
      obtain ⟨hd, h0⟩ := cond_some h
      have e := of_decide_eq_true hd
      subst e
      obtain ⟨y, a, h1, h2⟩ := Sh.sound hO s v _ _ h0
      refine ⟨y, a, h1, h2.alive, by rw [hob]; rfl, fun objs => ?_⟩
      obtain ⟨news, g1, g2, g3⟩ := h2.lie objs
      refine ⟨news, .box d (Sh.lay s y objs).1, by show (Sh.lay s y objs).2.set o _ = _; rw [g1], g2, fun ob2 μ2 e1 e2 => ?_, fun ob2 μ2 hag e1 e2 => ?_⟩
      · unfold Later; rw [e1]; exact ⟨⟨v, hob⟩, e2⟩
      · obtain ⟨k1, k2⟩ := g3 ob2 μ2 hag
        refine ⟨?_, k2⟩
        have hor := hO.each o
        unfold OR at hor ⊢
        rw [e1, e2]
        simp only [hob] at hor ⊢
        obtain ⟨b, cs, t, m1, m2, m3, m4, m5⟩ := hor
        exact ⟨b, cs, t, m1, m2, (h2.form objs).2.2.2 d m3, k1 _ m4, m5⟩
    · cases h
  | map T U =>
    simp only [obTake] at h
    split at h
    · rename_i T' U' c hob
      obtain ⟨ys, h1, h⟩ := optK_some h
      obtain ⟨e1, e2, h1⟩ := castM_some h1
      subst e1; subst e2; subst h1
      refine ⟨_, _, h, fun x hx => (by cases hx), by rw [hob]; rfl, fun objs => ⟨[], .map T' U' c, by simp [layOb], rfl, fun ob2 μ2 e1 e2 => ?_, fun ob2 μ2 _ e1 e2 => ⟨?_, fun i hi => (by cases hi)⟩⟩⟩
      · unfold Later; rw [e1]; exact ⟨⟨c, hob⟩, e2⟩
      · have hor := hO.each o
        unfold OR at hor ⊢
        rw [e1, e2]
        simpa only [hob] using hor
    · cases h
  | _ => simp only [obTake, reduceCtorEq] at h
theorem objs_sound (hO : Objs w A S.ob μ) : ∀ (l : List (Nat × Sh)) (K : (shsOf l).den → List (Option Nat) → Option ρ) (r : ρ), objsTake S l K = some r → (l.map (·.1)).Nodup →
    ∃ z b, K z b = some r ∧ (∀ x ∈ used b, (S.ob x).alive = true) ∧ (∀ x ∈ l.map (·.1), (S.ob x).alive = true) ∧ ∀ objs, (∀ x ∈ l.map (·.1), x < objs.length) →
      (layObs l z objs).length = objs.length + b.length ∧ (∀ m, m < objs.length → m ∉ l.map (·.1) → (layObs l z objs)[m]? = objs[m]?) ∧
      ∀ (ob2 : Nat → OB) (μ2 : Nat → Value), (∀ m ∈ l.map (·.1), ob2 m = obs (layObs l z objs) m ∧ μ2 m = μ m) → (∀ i, i < b.length → ob2 (objs.length + i) = obs (layObs l z objs) (objs.length + i) ∧ μ2 (objs.length + i) = srcV μ (b.getD i none)) →
        (∀ m ∈ l.map (·.1), Later S.ob μ ob2 μ2 m ∧ OR w A ob2 μ2 m) ∧ (∀ i, i < b.length → OR w A ob2 μ2 (objs.length + i))
  | [], K, r, h, _ => by
    simp only [objsTake] at h
    exact ⟨(), [], h, fun x hx => (by cases hx), fun x hx => (by cases hx), fun objs _ => ⟨rfl, fun _ _ _ => rfl, fun ob2 μ2 _ _ => ⟨fun m hm => (by cases hm), fun i hi => (by cases hi)⟩⟩⟩
  | p :: l, K, r, h, hnd => by
    simp only [objsTake] at h
    simp only [List.map_cons, List.nodup_cons] at hnd
    obtain ⟨y, a, h1, h2, h3, h4⟩ := ob_sound hO p.2 p.1 _ _ h
    obtain ⟨z, b, h5, h6, h7, h8⟩ := objs_sound hO l _ _ h1 hnd.2
    refine ⟨(y, z), a ++ b, h5, fun x hx => ?_, fun x hx => ?_, fun objs hr => ?_⟩
    · rw [used_append, List.mem_append] at hx
      exact hx.elim (h2 x) (h6 x)
    · rcases List.mem_cons.1 hx with rfl | hx
      · exact h3
      · exact h7 x hx
    · obtain ⟨news, cont, g1, g2, g3, g4⟩ := h4 objs
      have hp : p.1 < objs.length := hr p.1 (by simp)
      have hlen : (layOb p.2 y p.1 objs).length = objs.length + a.length := by rw [g1]; simp [g2]
      obtain ⟨k1, k2, k3⟩ := h8 (layOb p.2 y p.1 objs) (fun x hx => by rw [hlen]; have := hr x (by simp at hx ⊢; exact .inr hx); omega)
      have hroot : ∀ m, m < objs.length + a.length → m ∉ l.map (·.1) → (layObs l z (layOb p.2 y p.1 objs))[m]? = ((objs ++ news).set p.1 cont)[m]? := fun m hm hn => by
        rw [k2 m (by rw [hlen]; exact hm) hn, g1]
      refine ⟨by show (layObs l z (layOb p.2 y p.1 objs)).length = _; rw [k1, hlen, List.length_append]; omega, fun m hm hn => ?_, fun ob2 μ2 e1 e2 => ?_⟩
      · show (layObs l z (layOb p.2 y p.1 objs))[m]? = _
        simp only [List.map_cons, List.mem_cons, not_or] at hn
        rw [hroot m (by omega) hn.2, List.getElem?_set, if_neg (fun e => hn.1 e.symm), List.getElem?_append_left hm]
      · have e1' : ∀ m ∈ (p :: l).map (·.1), ob2 m = obs (layObs l z (layOb p.2 y p.1 objs)) m ∧ μ2 m = μ m := e1
        have e2' : ∀ i, i < (a ++ b).length → ob2 (objs.length + i) = obs (layObs l z (layOb p.2 y p.1 objs)) (objs.length + i) ∧ μ2 (objs.length + i) = srcV μ ((a ++ b).getD i none) := e2
        obtain ⟨q1, q2⟩ := e1' p.1 (by simp)
        have hcont : ob2 p.1 = cont := by
          rw [q1]
          simp only [obs, List.getD, hroot p.1 (by omega) hnd.1, List.getElem?_set]
          rw [if_pos trivial, if_pos (by simp; omega)]; rfl
        have hag : Agrees μ objs.length a news ob2 μ2 := fun i hi => by
          obtain ⟨m1, m2⟩ := e2' i (by simp; omega)
          have hnm : objs.length + i ∉ l.map (·.1) := fun hm => by have := hr _ (List.mem_cons_of_mem _ hm); omega
          refine ⟨?_, ?_⟩
          · rw [m1]
            simp only [obs, List.getD, hroot _ (by omega) hnm, List.getElem?_set]
            rw [if_neg (by omega), List.getElem?_append_right (by omega)]
            rw [show objs.length + i - objs.length = i from by omega]
          · rw [m2, List.getD, List.getElem?_append_left hi]; rfl
        obtain ⟨f1, f2⟩ := g4 ob2 μ2 hag hcont q2
        obtain ⟨f3, f4⟩ := k3 ob2 μ2 (fun m hm => e1' m (List.mem_cons_of_mem _ hm)) (fun i hi => by
          rw [hlen]
          obtain ⟨m1, m2⟩ := e2' (a.length + i) (by simp; omega)
          rw [← Nat.add_assoc] at m1 m2
          refine ⟨m1, ?_⟩
          rw [m2, List.getD, List.getElem?_append_right (by omega)]
          rw [show a.length + i - a.length = i from by omega]; rfl)
        refine ⟨fun m hm => ?_, fun i hi => ?_⟩
        · rcases List.mem_cons.1 hm with rfl | hm
          · exact ⟨g3 ob2 μ2 hcont q2, f1⟩
          · exact f3 m hm
        · by_cases hil : i < a.length
          · exact f2 i hil
          · have := f4 (i - a.length) (by simp at hi; omega)
            rwa [hlen, show objs.length + a.length + (i - a.length) = objs.length + i from by omega] at this

theorem killAll_len : ∀ (g : List Nat) (l : List OB), (killAll g l).length = l.length
  | [], l => rfl
  | o :: g, l => by simp only [killAll]; rw [killAll_len g]; simp
theorem killAll_get : ∀ (g : List Nat) (l : List OB) (m : Nat), obs (killAll g l) m = if m ∈ g then .dead else obs l m
  | [], l, m => by simp [killAll]
  | o :: g, l, m => by
    simp only [killAll]
    rw [killAll_get g]
    by_cases h : m ∈ g
    · simp [h]
    · simp only [h, if_false, List.mem_cons, or_false]
      simp only [obs, List.getD, List.getElem?_set]
      by_cases e : m = o
      · subst e; simp; split <;> rfl
      · rw [if_neg (fun h => e h.symm), if_neg e]
theorem anyAll_len : ∀ (g : List Nat) (l : List PV), (anyAll g l).length = l.length
  | [], l => rfl
  | o :: g, l => by simp only [anyAll]; rw [anyAll_len g]; simp
theorem anyAll_get : ∀ (g : List Nat) (l : List PV) (t : Nat), (anyAll g l)[t]? = if t ∈ g then (l[t]?).map (fun _ => .any) else l[t]?
  | [], l, t => by simp [anyAll]
  | o :: g, l, t => by
    simp only [anyAll]
    rw [anyAll_get g]
    simp only [List.getElem?_set, List.mem_cons]
    by_cases h : t ∈ g
    · simp only [h, or_true, if_true]
      by_cases e : o = t
      · subst e
        rw [if_pos rfl]
        by_cases hl : o < l.length
        · rw [if_pos hl, List.getElem?_eq_getElem hl]; rfl
        · rw [if_neg hl]
          have : l[o]? = none := by simp; omega
          rw [this]
      · rw [if_neg e]
    · simp only [h, or_false, if_false]
      by_cases e : o = t
      · subst e
        rw [if_pos rfl, if_pos rfl]
        by_cases hl : o < l.length
        · rw [if_pos hl, List.getElem?_eq_getElem hl]; rfl
        · rw [if_neg hl]
          have : l[o]? = none := by simp; omega
          rw [this]; rfl
      · rw [if_neg e, if_neg (fun h => e h.symm)]
theorem within_iff {n0 : Nat} {l : List Nat} : ∀ {m : List Nat}, within n0 l m = true ↔ ∀ o ∈ m, n0 ≤ o ∨ o ∈ l
  | [] => by simp [within]
  | o :: m => by simp [within, within_iff (m := m), mem_iff]
theorem used_mem {l : List (Option Nat)} {o : Nat} : o ∈ used l ↔ some o ∈ l := by
  induction l with
  | nil => simp [used]
  | cons x l ih => cases x <;> simp [used, ih]
theorem used_inj : ∀ {l : List (Option Nat)} {i j o : Nat}, (used l).Nodup → l[i]? = some (some o) → l[j]? = some (some o) → i = j
  | [], i, j, o, _, h, _ => by simp at h
  | x :: l, 0, 0, o, _, _, _ => rfl
  | x :: l, 0, j + 1, o, hn, h1, h2 => by
    simp only [List.getElem?_cons_zero, Option.some.injEq] at h1
    simp only [List.getElem?_cons_succ] at h2
    subst h1
    simp only [used, List.nodup_cons] at hn
    exact absurd (used_mem.2 (List.mem_of_getElem? h2)) hn.1
  | x :: l, i + 1, 0, o, hn, h1, h2 => by
    simp only [List.getElem?_cons_zero, Option.some.injEq] at h2
    simp only [List.getElem?_cons_succ] at h1
    subst h2
    simp only [used, List.nodup_cons] at hn
    exact absurd (used_mem.2 (List.mem_of_getElem? h1)) hn.1
  | x :: l, i + 1, j + 1, o, hn, h1, h2 => by
    simp only [List.getElem?_cons_succ] at h1 h2
    have hn' : (used l).Nodup := by
      cases x with
      | none => exact hn
      | some y => simp only [used, List.nodup_cons] at hn; exact hn.2
    rw [used_inj hn' h1 h2]
/-- what holds where ways meet -/
theorem act_put_same (a : Act) (t : Nat) : a.put (some t) (a.tmps.getD t Go.undef) = a := by
  have h : a.tmps.setIfInBounds t (a.tmps.getD t Go.undef) = a.tmps := by
    apply Array.ext_getElem?
    intro i
    rw [Array.getElem?_setIfInBounds]
    split
    · rename_i e
      subst e
      split
      · rename_i h2
        simp [Array.getD, h2]
      · rename_i h2
        rw [Array.getElem?_eq_none (by omega)]
    · rfl
  simp only [Act.put, h]
theorem SR.settle1 {c : Cx} {a : Act} (h : SR c S μ a w) {t o : Nat} {lo hi : Int} {U : Ty} {xs : List U.den} (ht : S.slots.getD t .any = .sub o lo hi) (hob : S.ob o = .row U xs) (hf : S.fresh S.objs.length = true) :
    ∃ μ', SR c (((S.setOb o .dead).new S.objs.length (.row U ((xs.take hi.toNat).drop lo.toNat))).put (some t) (.row S.objs.length)) μ' a w ∧
      (∀ n ds, t ∈ ds → n ≤ S.objs.length → Ag n ds S μ (((S.setOb o .dead).new S.objs.length (.row U ((xs.take hi.toNat).drop lo.toNat))).put (some t) (.row S.objs.length)) μ') := by
  have hv : VR w (av c S.ob μ) S.ob μ (.sub o lo hi) (a.tmps.getD t Go.undef) := by
    cases hx : S.slots[t]? with
    | none => rw [List.getD, hx] at ht; cases ht
    | some u =>
      rw [List.getD, hx] at ht
      simp only [Option.getD_some] at ht
      subst ht
      exact h.slots.each t _ hx
  have hal : (S.ob o).alive = true := by rw [hob]; rfl
  obtain ⟨hra, _, hbk, _⟩ := ((h.objs.each o).rowAt hob).sub (hv.subv hob)
  obtain ⟨hd, g1, g2, g3, g4⟩ := rowAt_own hra hbk
  have hfr := fresh_iff hf
  have hlt : ∀ x, blkOf hd = some x → x < w.heap.size := fun x hx => h.objs.old x (.inr ⟨o, hal, g4 x hx⟩)
  obtain ⟨μ', h1, h2⟩ := h.consume (o := o) (al := S.objs.length) (nb := .row U ((xs.take hi.toNat).drop lo.toNat)) (mv := hd) (d := some t) (pv := .row S.objs.length) (v := a.tmps.getD t Go.undef) (w' := w) hal hfr rfl (Keep.refl _ w)
    (fun x hx => ⟨hlt x hx, .inl (g4 x hx)⟩)
    (by
      unfold OR
      rw [upd_same, upd_same]
      rcases g3 with ⟨e, e2⟩ | ⟨b, off, c', e, cs, tt, k1, k2, k3, k4, k5⟩
      · exact .inl ⟨by rw [e]; rfl, e2⟩
      · refine .inr ⟨b, off, c', cs, tt, e, k1, k2, k3, k4, fun i x hx => ?_⟩
        obtain ⟨cx, k6, k7⟩ := k5 i x hx
        refine ⟨cx, DR.keep (Keep.refl None w) (fun y _ hy => ?_) (fun _ h => h.elim) _ _ _ k6, k7⟩
        rcases hy with hy | hy
        · exact hy
        · exact .inr ⟨o, hal, g4 y hy⟩)
    (.inr ⟨by
      have hc : (a.tmps.getD t Go.undef).cells.toList = [a.tmps.getD t Go.undef] := by
        revert g2
        generalize a.tmps.getD t Go.undef = z
        intro g2
        cases z <;> first | rfl | (simp [Value.oneCell'] at g2)
      rw [hc]
      simp only [CR, upd_same]
      exact ⟨_, rfl, g2, g1⟩, by
        revert g2
        generalize a.tmps.getD t Go.undef = z
        intro g2
        cases z <;> first | rfl | (simp [Value.oneCell'] at g2)⟩)
  rw [act_put_same] at h1
  exact ⟨μ', h1, fun n ds ht hn => h2 n ds (fun t' e => by cases e; exact ht) hn hn⟩
theorem settle_sound {c : Cx} {a : Act} {ds : List Nat} {n : Nat} : ∀ (l : List (Nat × Sh)) {S : St} {μ : Nat → Value} {K : St → Option ρ} {r : ρ}, settle l S K = some r → SR c S μ a w → (∀ p ∈ l, p.1 ∈ ds) → n ≤ S.objs.length →
    ∃ S' μ', K S' = some r ∧ SR c S' μ' a w ∧ Ag n ds S μ S' μ'
  | [], S, μ, K, r, h, hsr, _, hn => ⟨S, μ, h, hsr, Ag.refl _ hn⟩
  | p :: l, S, μ, K, r, h, hsr, hd, hn => by
    simp only [settle] at h
    have hd' : ∀ p ∈ l, p.1 ∈ ds := fun q hq => hd q (List.mem_cons_of_mem _ hq)
    split at h
    · split at h
      · rename_i o lo hi hs
        split at h
        · rename_i U xs hob
          obtain ⟨hf, h⟩ := cond_some h
          obtain ⟨μ1, h1, h2⟩ := hsr.settle1 hs hob hf
          have ha := h2 n ds (hd p (List.mem_cons_self ..)) hn
          obtain ⟨S', μ', k1, k2, k3⟩ := settle_sound l h h1 hd' ha.olen
          exact ⟨S', μ', k1, k2, ha.trans k3 (fun _ h => h) (fun _ h => h)⟩
        · cases h
      · exact settle_sound l h hsr hd' hn
    · exact settle_sound l h hsr hd' hn
theorem join_sound0 {c : Cx} {s : SSh} {S0 S' : St} {ds : List Nat} {K : s.den → Option ρ} {r : ρ} {μ0 μ' : Nat → Value} {a : Act} (hfit : s.fit S0 ds = true) (h : s.take0 S0.objs.length S' K = some r) (hsr : SR c S' μ' a w)
    (hag : Ag S0.objs.length ds S0 μ0 S' μ') (ht0 : S0.touched = []) :
    ∃ y, K y = some r ∧ ∃ μ2, SR c (s.lay S0 ds y) μ2 a w ∧ Ag S0.objs.length ds S0 μ0 (s.lay S0 ds y) μ2 := by
  simp only [SSh.fit, Bool.and_eq_true, unseen] at hfit
  rw [boundL_iff, boundO_iff, within0_iff, boundL_iff, nodup_iff, disj_iff] at hfit
  obtain ⟨⟨hun1, hun2⟩, hpos, hroots, hrnd, hdis⟩ := hfit
  unfold SSh.take0 at h
  obtain ⟨z, b, h, hb1, hb2, hb3⟩ := objs_sound hsr.objs _ _ _ h hrnd
  obtain ⟨y, e, h, he1, he2⟩ := slots_sound hsr.objs hsr.slots _ _ _ h
  obtain ⟨hc, h⟩ := cond_some h
  simp only [Bool.and_eq_true] at hc
  rw [nodup_iff, within_iff, within_iff] at hc
  obtain ⟨hnd, hgone, htouch, hlen'⟩ := hc
  refine ⟨(y, z), h, ?_⟩
  obtain ⟨q1, q2, q3⟩ := hb3 (killAll s.gone S0.objs) (fun x hx => by rw [killAll_len]; exact hroots x hx)
  rw [killAll_len] at q1
  obtain ⟨news, p1, p2, p3, p4, p5⟩ := he2 (anyAll ds S0.slots) (layObs s.objs z (killAll s.gone S0.objs))
  generalize hS2 : s.lay S0 ds (y, z) = S2
  have hobjs : S2.objs = layObs s.objs z (killAll s.gone S0.objs) ++ news := by subst hS2; exact p1
  have hslots : S2.slots = (laySlots s.slots y (anyAll ds S0.slots) (layObs s.objs z (killAll s.gone S0.objs))).1 := by subst hS2; rfl
  have htou : S2.touched = s.gone ++ s.objs.map (·.1) := by subst hS2; rfl
  let μ2 : Nat → Value := fun m => if m < S0.objs.length then μ' m else srcV μ' ((b ++ e).getD (m - S0.objs.length) none)
  have hμ1 : ∀ m, m < S0.objs.length → μ2 m = μ' m := fun m hm => by show (if _ then _ else _) = _; rw [if_pos hm]
  have hμ2 : ∀ i, μ2 (S0.objs.length + i) = srcV μ' ((b ++ e).getD i none) := fun i => by
    show (if _ then _ else _) = _
    rw [if_neg (by omega), Nat.add_sub_cancel_left]
  have hob2 : ∀ m, S2.ob m = obs S2.objs m := fun m => rfl
  have hlen2 : S2.objs.length = S0.objs.length + (b.length + e.length) := by rw [hobjs]; simp [q1, p2]; omega
  have hobA : ∀ m, m < S0.objs.length + b.length → S2.ob m = obs (layObs s.objs z (killAll s.gone S0.objs)) m := fun m hm => by
    simp only [hob2, hobjs, obs, List.getD]
    rw [List.getElem?_append_left (by omega)]
  obtain ⟨hR, hB⟩ := q3 S2.ob μ2 (fun m hm => ⟨hobA m (by have := hroots m hm; omega), hμ1 m (hroots m hm)⟩) (fun i hi => by
    rw [killAll_len]
    refine ⟨hobA _ (by omega), ?_⟩
    rw [hμ2, List.getD, List.getElem?_append_left hi]; rfl)
  rw [killAll_len] at hB
  obtain ⟨hE, hSl⟩ := p5 S2.ob μ2 (fun i hi => by
    rw [q1, Nat.add_assoc, hμ2]
    refine ⟨?_, ?_⟩
    · simp only [hob2, hobjs, obs, List.getD]
      rw [List.getElem?_append_right (by omega), q1]
      rw [show S0.objs.length + (b.length + i) - (S0.objs.length + b.length) = i from by omega]
    · rw [List.getD, List.getElem?_append_right (by omega)]
      rw [show b.length + i - b.length = i from by omega]; rfl)
  rw [q1] at hE
  have hother : ∀ m, m < S0.objs.length → m ∉ s.objs.map (·.1) → S2.ob m = if m ∈ s.gone then .dead else S0.ob m := fun m hm hn => by
    rw [hobA m (by omega)]
    have := q2 m (by rw [killAll_len]; exact hm) hn
    have e1 : obs (layObs s.objs z (killAll s.gone S0.objs)) m = obs (killAll s.gone S0.objs) m := by simp only [obs, List.getD, this]
    rw [e1, killAll_get]; rfl
  have hsame : ∀ m, m < S0.objs.length → m ∉ s.objs.map (·.1) → m ∉ s.gone → S2.ob m = S'.ob m ∧ S'.ob m = S0.ob m := fun m hm hn hg => by
    have e1 : S'.ob m = S0.ob m := by
      rcases hag.ob m hm with h | h
      · exact h
      · rcases htouch m h with h1 | h1
        · omega
        · rw [List.mem_append] at h1; exact h1.elim (fun h => absurd h hg) (fun h => absurd h hn)
    rw [hother m hm hn, if_neg hg]
    exact ⟨e1.symm, e1⟩
  have hlat : ∀ m, m < S0.objs.length → Later S'.ob μ' S2.ob μ2 m := fun m hm => by
    by_cases hn : m ∈ s.objs.map (·.1)
    · exact (hR m hn).1
    · by_cases hg : m ∈ s.gone
      · unfold Later; rw [hother m hm hn, if_pos hg]; trivial
      · unfold Later
        rw [(hsame m hm hn hg).1, hμ1 m hm]
        cases S'.ob m <;> simp
  have horA : ∀ m, OR w (av c S'.ob μ') S2.ob μ2 m := fun m => by
    rcases Nat.lt_or_ge m S0.objs.length with hm | hm
    · by_cases hn : m ∈ s.objs.map (·.1)
      · exact (hR m hn).2
      · by_cases hg : m ∈ s.gone
        · unfold OR; rw [hother m hm hn, if_pos hg]; trivial
        · obtain ⟨e1, e2⟩ := hsame m hm hn hg
          refine (hsr.objs.each m).later (Keep.refl None w) (fun _ _ h => h) (fun _ h => h.elim) (.inl e1) (fun _ => hμ1 m hm) (fun x h1 h2 => ⟨fun h => h.elim, own_lt hsr ⟨m, h1, h2⟩⟩) (fun x hx => ?_)
          rw [e2] at hx
          obtain ⟨b', hb', hx⟩ := ob_oids_mem hx
          exact hlat x (hun2 b' hb' x hx)
    · rcases Nat.lt_or_ge m S2.objs.length with h1 | h1
      · rcases Nat.lt_or_ge m (S0.objs.length + b.length) with h2 | h2
        · have := hB (m - S0.objs.length) (by omega)
          rwa [show S0.objs.length + (m - S0.objs.length) = m from by omega] at this
        · have := hE (m - (S0.objs.length + b.length)) (by omega)
          rwa [show S0.objs.length + b.length + (m - (S0.objs.length + b.length)) = m from by omega] at this
      · unfold OR
        have : S2.objs[m]? = none := by simp; omega
        have : S2.ob m = .dead := by simp [St.ob, List.getD, this]
        rw [this]; trivial
  have hsrc : ∀ m x, (S2.ob m).alive = true → blkOf (μ2 m) = some x → ∃ o, (S'.ob o).alive = true ∧ blkOf (μ' o) = some x ∧ ((m < S0.objs.length ∧ o = m ∧ m ∉ s.gone) ∨ ∃ i, m = S0.objs.length + i ∧ (b ++ e)[i]? = some (some o)) := fun m x h1 h2 => by
    rcases Nat.lt_or_ge m S0.objs.length with hm | hm
    · rw [hμ1 m hm] at h2
      by_cases hn : m ∈ s.objs.map (·.1)
      · exact ⟨m, hb2 m hn, h2, .inl ⟨hm, rfl, hdis m hn⟩⟩
      · by_cases hg : m ∈ s.gone
        · rw [hother m hm hn, if_pos hg] at h1; cases h1
        · rw [(hsame m hm hn hg).1] at h1
          exact ⟨m, h1, h2, .inl ⟨hm, rfl, hg⟩⟩
    · have e1 := hμ2 (m - S0.objs.length)
      rw [show S0.objs.length + (m - S0.objs.length) = m from by omega] at e1
      rw [e1, List.getD] at h2
      cases hx : (b ++ e)[m - S0.objs.length]? with
      | none => rw [hx] at h2; simp [srcV, blkOf] at h2
      | some o =>
        cases o with
        | none => rw [hx] at h2; simp [srcV, blkOf] at h2
        | some o =>
          rw [hx] at h2
          have hm2 : o ∈ used (b ++ e) := used_mem.2 (List.mem_of_getElem? hx)
          refine ⟨o, ?_, h2, .inr ⟨m - S0.objs.length, by omega, hx⟩⟩
          rw [used_append, List.mem_append] at hm2
          exact hm2.elim (hb1 o) (he1 o)
  have hown : ∀ x, own S2.ob μ2 x → own S'.ob μ' x := fun x hx => by
    obtain ⟨m, h1, h2⟩ := hx
    obtain ⟨o, h3, h4, _⟩ := hsrc m x h1 h2
    exact ⟨o, h3, h4⟩
  have hav : ∀ x, av c S2.ob μ2 x → av c S'.ob μ' x := fun x hx => hx.imp id (hown x)
  refine ⟨μ2, ⟨hsr.defers, ⟨?_, fun t v htv => ?_⟩, ⟨fun m => ?_, fun m m' x h1 h2 h3 h4 => ?_, fun x hx => .inr hx, fun x hx => hsr.objs.old x (hav x hx), fun p hp => ⟨(hsr.objs.lay p hp).1, fun a => (hsr.objs.lay p hp).2 (hav _ a)⟩⟩, hsr.keep, fun x hx => hsr.mine x (hown x hx)⟩, ?_⟩
  · rw [hsr.slots.size, hslots, p3, anyAll_len, hag.len]
  · rw [hslots] at htv
    refine VR.later (Keep.refl None w) (fun x _ hx => hav x hx) (fun _ h => h.elim) (fun o _ => Later.refl _ _ o) (hSl (fun t v ht => ?_) t v htv)
    rw [anyAll_get] at ht
    by_cases hd : t ∈ ds
    · rw [if_pos hd] at ht
      cases hx : S0.slots[t]? with
      | none => rw [hx] at ht; cases ht
      | some u => rw [hx] at ht; simp only [Option.map_some, Option.some.injEq] at ht; subst ht; exact .inl rfl
    · rw [if_neg hd] at ht
      have h1 := hsr.slots.each t v (by rw [hag.slot t hd]; exact ht)
      exact VR.later (Keep.refl None w) (fun _ _ h => h) (fun _ h => h.elim) (fun o ho => hlat o (hun1 o (oidsL_mem (List.mem_of_getElem? ht) ho))) h1
  · exact (horA m).later (Keep.refl None w) (fun x _ hx => hav x hx) (fun _ h => h.elim) (.inl rfl) (fun _ => rfl) (fun x h1 h2 => ⟨fun h => h.elim, own_lt hsr (hown x ⟨m, h1, h2⟩)⟩) (fun x _ => Later.refl _ _ x)
  · obtain ⟨o, k1, k2, k3⟩ := hsrc m x h1 h3
    obtain ⟨o', k4, k5, k6⟩ := hsrc m' x h2 h4
    have e1 := hsr.objs.apart o o' x k1 k4 k2 k5
    subst e1
    rcases k3 with ⟨g1, g2, g3⟩ | ⟨i, g1, g2⟩ <;> rcases k6 with ⟨g4, g5, g6⟩ | ⟨j, g4, g5⟩
    · rw [← g2, ← g5]
    · exfalso
      rcases hgone o (used_mem.2 (List.mem_of_getElem? g5)) with h5 | h5
      · omega
      · exact g3 (g2 ▸ h5)
    · exfalso
      rcases hgone o (used_mem.2 (List.mem_of_getElem? g2)) with h5 | h5
      · omega
      · exact g6 (g5 ▸ h5)
    · rw [g1, g4, used_inj hnd g2 g5]
  · refine ⟨by rw [hslots, p3, anyAll_len], fun t ht => ?_, by rw [hlen2]; omega, fun i hi => ?_, fun i hi => (by rw [ht0] at hi; cases hi), fun i hi => (hag.later i hi).trans (hlat i hi)⟩
    · rw [hslots, p4 t (fun hm => ht (hpos t hm)), anyAll_get, if_neg ht]
    · by_cases hn : i ∈ s.objs.map (·.1)
      · exact .inr (by rw [htou]; simp only [List.mem_append]; exact .inr hn)
      · by_cases hg : i ∈ s.gone
        · exact .inr (by rw [htou]; simp only [List.mem_append]; exact .inl hg)
        · obtain ⟨e1, e2⟩ := hsame i hi hn hg
          exact .inl (by rw [e1, e2])
theorem join_sound {c : Cx} {s : SSh} {S0 S' : St} {ds : List Nat} {K : s.den → Option ρ} {r : ρ} {μ0 μ' : Nat → Value} {a : Act} (hfit : s.fit S0 ds = true) (h : s.take S0.objs.length S' K = some r) (hsr : SR c S' μ' a w)
    (hag : Ag S0.objs.length ds S0 μ0 S' μ') (ht0 : S0.touched = []) :
    ∃ y, K y = some r ∧ ∃ μ2, SR c (s.lay S0 ds y) μ2 a w ∧ Ag S0.objs.length ds S0 μ0 (s.lay S0 ds y) μ2 := by
  have hpos : ∀ p ∈ s.slots, p.1 ∈ ds := fun p hp => by
    have := hfit
    simp only [SSh.fit, Bool.and_eq_true, unseen] at this
    rw [boundL_iff, boundO_iff, within0_iff, boundL_iff, nodup_iff, disj_iff] at this
    exact this.2.1 p.1 (List.mem_map.2 ⟨p, hp, rfl⟩)
  obtain ⟨S1, μ1, h1, hsr1, hag1⟩ := settle_sound (n := S0.objs.length) (ds := ds) _ h hsr hpos hag.olen
  exact join_sound0 hfit h1 hsr1 (hag.trans hag1 (fun _ h => h) (fun _ h => h)) ht0
end
end Go.Vm

/- Vm, part 20b: ranges over maps: the step. Own work. -/
set_option linter.unusedVariables false
set_option linter.unusedSimpArgs false
set_option linter.unusedSectionVars false
namespace Go.Vm
variable [MonotC]
open Go.RowKit
/-! ### What is laid does not hang on the other objects -/
mutual
theorem Sh.lay_ext : ∀ (s : Sh) (y : s.den) (l l' : List OB), l.length = l'.length → (Sh.lay s y l).1 = (Sh.lay s y l').1 ∧ ∃ news, (Sh.lay s y l).2 = l ++ news ∧ (Sh.lay s y l').2 = l' ++ news
  | .int _, y, l, l', h => ⟨rfl, [], by simp [Sh.lay], by simp [Sh.lay]⟩
  | .bool, y, l, l', h => ⟨rfl, [], by simp [Sh.lay], by simp [Sh.lay]⟩
  | .str, y, l, l', h => ⟨rfl, [], by simp [Sh.lay], by simp [Sh.lay]⟩
  | .sl _, y, l, l', h => ⟨rfl, [], by simp [Sh.lay], by simp [Sh.lay]⟩
  | .row T, y, l, l', h => ⟨by simp [Sh.lay, h], _, rfl, rfl⟩
  | .map T U, y, l, l', h => ⟨by simp [Sh.lay, h], _, rfl, rfl⟩
  | .bytes, y, l, l', h => ⟨by simp [Sh.lay, h], _, rfl, rfl⟩
  | .box d s, y, l, l', h => by
    obtain ⟨h1, news, h2, h3⟩ := Sh.lay_ext s y l l' h
    refine ⟨by simp only [Sh.lay, h2, h3, List.length_append, h], news ++ [.box d (Sh.lay s y l').1], by simp only [Sh.lay, h2, h1, List.append_assoc], by simp only [Sh.lay, h3, List.append_assoc]⟩
  | .agg s, y, l, l', h => by
    obtain ⟨h1, news, h2, h3⟩ := Shs.lay_ext s y l l' h
    exact ⟨by simp only [Sh.lay, h1], news, by simp only [Sh.lay, h2], by simp only [Sh.lay, h3]⟩
theorem Shs.lay_ext : ∀ (s : Shs) (y : s.den) (l l' : List OB), l.length = l'.length → (Shs.lay s y l).1 = (Shs.lay s y l').1 ∧ ∃ news, (Shs.lay s y l).2 = l ++ news ∧ (Shs.lay s y l').2 = l' ++ news
  | .nil, y, l, l', h => ⟨rfl, [], by simp [Shs.lay], by simp [Shs.lay]⟩
  | .cons s t, y, l, l', h => by
    obtain ⟨h1, n1, h2, h3⟩ := Sh.lay_ext s y.1 l l' h
    obtain ⟨h4, n2, h5, h6⟩ := Shs.lay_ext t y.2 (Sh.lay s y.1 l).2 (Sh.lay s y.1 l').2 (by rw [h2, h3]; simp [h])
    exact ⟨by simp only [Shs.lay, h1, h4], n1 ++ n2, by simp only [Shs.lay]; rw [h5, h2, List.append_assoc], by simp only [Shs.lay]; rw [h6, h3, List.append_assoc]⟩
  | .skip t, y, l, l', h => by
    obtain ⟨h1, news, h2, h3⟩ := Shs.lay_ext t y l l' h
    exact ⟨by simp only [Shs.lay, h1], news, by simp only [Shs.lay, h2], by simp only [Shs.lay, h3]⟩
end
theorem set_app {l m : List OB} {o : Nat} {X : OB} (h : o < l.length) : (l ++ m).set o X = l.set o X ++ m := List.set_append_left _ _ h
theorem layOb_set (s : Sh) (y : s.den) {p o : Nat} {X : OB} {L : List OB} (h : o < L.length) (hne : p ≠ o) : layOb s y p (L.set o X) = (layOb s y p L).set o X ∧ L.length ≤ (layOb s y p L).length := by
  cases s with
  | row T => exact ⟨List.set_comm _ _ (Ne.symm hne), by simp [layOb]⟩
  | map T U => exact ⟨List.set_comm _ _ (Ne.symm hne), by simp [layOb]⟩
  | box d s =>
    obtain ⟨h1, n1, h2, h3⟩ := Sh.lay_ext s y (L.set o X) L (by simp)
    refine ⟨?_, by simp only [layOb, h3]; simp⟩
    simp only [layOb, h2, h3, h1]
    rw [← set_app h]
    exact List.set_comm _ _ (Ne.symm hne)
  | _ => exact ⟨rfl, Nat.le_refl _⟩
theorem layObs_set {o : Nat} {X : OB} : ∀ (l : List (Nat × Sh)) (y : (shsOf l).den) (L : List OB), o < L.length → o ∉ l.map (·.1) → layObs l y (L.set o X) = (layObs l y L).set o X ∧ L.length ≤ (layObs l y L).length
  | [], y, L, h, hn => ⟨rfl, Nat.le_refl _⟩
  | p :: r, y, L, h, hn => by
    simp only [List.map_cons, List.mem_cons, not_or] at hn
    obtain ⟨h1, h2⟩ := layOb_set (X := X) p.2 y.1 (p := p.1) h (fun e => hn.1 e.symm)
    obtain ⟨h3, h4⟩ := layObs_set (X := X) r y.2 (layOb p.2 y.1 p.1 L) (by omega) hn.2
    simp only [layObs, h1, h3, true_and]
    omega
theorem laySlots_set {o : Nat} {X : OB} : ∀ (l : List (Nat × Sh)) (y : (shsOf l).den) (vs : List PV) (L : List OB), o < L.length → (laySlots l y vs (L.set o X)).1 = (laySlots l y vs L).1 ∧ (laySlots l y vs (L.set o X)).2 = (laySlots l y vs L).2.set o X ∧ L.length ≤ (laySlots l y vs L).2.length
  | [], y, vs, L, h => ⟨rfl, rfl, Nat.le_refl _⟩
  | p :: r, y, vs, L, h => by
    obtain ⟨h1, n1, h2, h3⟩ := Sh.lay_ext p.2 y.1 (L.set o X) L (by simp)
    simp only [laySlots, h1, h2]
    have e : L.set o X ++ n1 = (Sh.lay p.2 y.1 L).2.set o X := by rw [h3, set_app h]
    rw [e]
    obtain ⟨g1, g2, g3⟩ := laySlots_set (o := o) (X := X) r y.2 (vs.set p.1 (Sh.lay p.2 y.1 L).1) (Sh.lay p.2 y.1 L).2 (by rw [h3]; simp; omega)
    refine ⟨g1, g2, ?_⟩
    have : L.length ≤ (Sh.lay p.2 y.1 L).2.length := by rw [h3]; simp
    omega
theorem killAll_set {o : Nat} {X : OB} : ∀ (g : List Nat) (L : List OB), o ∉ g → killAll g (L.set o X) = (killAll g L).set o X
  | [], L, h => rfl
  | p :: g, L, h => by
    simp only [List.mem_cons, not_or] at h
    simp only [killAll]
    rw [List.set_comm _ _ h.1]
    exact killAll_set g _ h.2
theorem lay_set (s : SSh) (S : St) (ds : List Nat) (y : s.den) {o : Nat} {X : OB} (h : o < S.objs.length) (h1 : o ∉ s.gone) (h2 : o ∉ s.objs.map (·.1)) :
    s.lay { S with objs := S.objs.set o X } ds y = { s.lay S ds y with objs := (s.lay S ds y).objs.set o X } ∧ S.objs.length ≤ (s.lay S ds y).objs.length := by
  have e1 := killAll_set (X := X) s.gone S.objs h1
  obtain ⟨e2, e3⟩ := layObs_set (X := X) s.objs y.2 (killAll s.gone S.objs) (by rw [killAll_len]; exact h) h2
  rw [killAll_len] at e3
  obtain ⟨g1, g2, g3⟩ := laySlots_set (o := o) (X := X) s.slots y.1 (anyAll ds S.slots) (layObs s.objs y.2 (killAll s.gone S.objs)) (by omega)
  unfold SSh.lay
  simp only [e1, e2, g1, g2, true_and]
  omega
/-! ### What is laid leaves the other objects -/
theorem layOb_get (s : Sh) (y : s.den) {p x : Nat} {L : List OB} (h : x < L.length) (hne : p ≠ x) : (layOb s y p L)[x]? = L[x]? := by
  cases s with
  | row T => simp only [layOb]; rw [List.getElem?_set_ne hne]
  | map T U => simp only [layOb]; rw [List.getElem?_set_ne hne]
  | box d s =>
    obtain ⟨h1, n1, h2, h3⟩ := Sh.lay_ext s y L L rfl
    simp only [layOb, h2]
    rw [List.getElem?_set_ne hne, List.getElem?_append_left h]
  | _ => rfl
theorem layObs_get {x : Nat} : ∀ (l : List (Nat × Sh)) (y : (shsOf l).den) (L : List OB), x < L.length → x ∉ l.map (·.1) → (layObs l y L)[x]? = L[x]?
  | [], y, L, h, hn => rfl
  | p :: r, y, L, h, hn => by
    simp only [List.map_cons, List.mem_cons, not_or] at hn
    have hl := (layOb_set (X := .dead) p.2 y.1 (p := p.1) h (fun e => hn.1 e.symm)).2
    simp only [layObs]
    rw [layObs_get r y.2 _ (by omega) hn.2, layOb_get p.2 y.1 h (fun e => hn.1 e.symm)]
theorem laySlots_get {x : Nat} : ∀ (l : List (Nat × Sh)) (y : (shsOf l).den) (vs : List PV) (L : List OB), x < L.length → (laySlots l y vs L).2[x]? = L[x]?
  | [], y, vs, L, h => rfl
  | p :: r, y, vs, L, h => by
    obtain ⟨h1, n1, h2, h3⟩ := Sh.lay_ext p.2 y.1 L L rfl
    simp only [laySlots]
    rw [laySlots_get r y.2 _ _ (by rw [h2]; simp; omega), h2, List.getElem?_append_left h]
theorem lay_ob (s : SSh) (S : St) (ds : List Nat) (y : s.den) {x : Nat} (h : x < S.objs.length) (h1 : x ∉ s.gone) (h2 : x ∉ s.objs.map (·.1)) : (s.lay S ds y).ob x = S.ob x := by
  have e3 := (layObs_set (X := .dead) s.objs y.2 (killAll s.gone S.objs) (by rw [killAll_len]; exact h) h2).2
  rw [killAll_len] at e3
  have e : (s.lay S ds y).objs[x]? = (killAll s.gone S.objs)[x]? := by
    unfold SSh.lay
    rw [laySlots_get _ _ _ _ (by omega), layObs_get _ _ _ (by rw [killAll_len]; exact h) h2]
  have := killAll_get s.gone S.objs x
  rw [if_neg h1] at this
  simp only [St.ob, List.getD, e]
  exact this
theorem fit_set {s : SSh} {S : St} {ds : List Nat} {o : Nat} {X : OB} (h : s.fit S ds = true) (hx : X.oids = (S.ob o).oids) (ho : o < S.objs.length) : s.fit { S with objs := S.objs.set o X } ds = true := by
  simp only [SSh.fit, Bool.and_eq_true, unseen, List.length_set] at h ⊢
  refine ⟨⟨h.1.1, ?_⟩, h.2⟩
  have h2 := h.1.2
  rw [boundO_iff] at h2 ⊢
  intro b hb x hxb
  rcases List.mem_or_eq_of_mem_set hb with hb | rfl
  · exact h2 b hb x hxb
  · rw [hx] at hxb
    have : S.ob o ∈ S.objs := by
      simp only [St.ob, List.getD, List.getElem?_eq_getElem ho, Option.getD_some]
      exact List.getElem_mem ho
    exact h2 _ this x hxb
/-! ### States -/
section
variable {c : Cx} {S : St} {μ : Nat → Value} {a : Act} {w : World}
theorem SR.congr {S' : St} (h : SR c S μ a w) (h1 : S'.slots = S.slots) (h2 : S'.ob = S.ob) : SR c S' μ a w := ⟨h.defers, by rw [h1, h2]; exact h.slots, by rw [h2]; exact h.objs, h.keep, by rw [h2]; exact h.mine⟩
/-! ### The step -/
theorem perm_split {α : Type} {l : List α} {x : α} (h : x ∈ l) : ∃ r, l.Perm (x :: r) := by
  obtain ⟨s, t, rfl⟩ := List.append_of_mem h
  exact ⟨s ++ t, List.perm_middle⟩
theorem Ents.get {A : Nat → Prop} {K V : Ty} : ∀ {l : List (K.den × V.den × Nat)} {m : List MapEntry}, Ents w A K V l m → ∀ e ∈ m, ∃ x ∈ l, KeyR w A K x.1 e.key ∧ KeyR w A V x.2.1 e.val ∧ e.born = x.2.2
  | [], m, h => by simp only [Ents] at h; subst h; intro e he; cases he
  | x :: l, m, h => by
    simp only [Ents] at h
    obtain ⟨e', r, rfl, h1, h2, h3, h4, h5, h6⟩ := h
    intro e he
    rcases List.mem_cons.1 he with rfl | he
    · exact ⟨x, List.mem_cons_self .., ⟨h1, h2⟩, ⟨h3, h4⟩, h5⟩
    · obtain ⟨y, hy, hr⟩ := Ents.get h6 e he
      exact ⟨y, List.mem_cons_of_mem _ hy, hr⟩
theorem Ents.borns {A : Nat → Prop} {K V : Ty} : ∀ {l : List (K.den × V.den × Nat)} {m : List MapEntry}, Ents w A K V l m → m.map (·.born) = l.map (·.2.2)
  | [], m, h => by simp only [Ents] at h; subst h; rfl
  | x :: l, m, h => by
    simp only [Ents] at h
    obtain ⟨e', r, rfl, h1, h2, h3, h4, h5, h6⟩ := h
    simp [h5, Ents.borns h6]
theorem find_of_born : ∀ {m : List MapEntry}, (m.map (·.born)).Nodup → ∀ e ∈ m, m.find? (·.born == e.born) = some e
  | [], h, e, he => by cases he
  | x :: m, h, e, he => by
    simp only [List.map_cons, List.nodup_cons] at h
    rcases List.mem_cons.1 he with rfl | he
    · simp
    · have hne : (x.born == e.born) = false := by
        rw [beq_eq_false_iff_ne]
        exact fun hx => h.1 (List.mem_map.2 ⟨e, he, hx.symm⟩)
      rw [List.find?_cons, hne]
      exact find_of_born h.2 e he
variable {P : Program} {o1 o2 : Oper} {ops : Array Oper} {Q : Exit → Act → World → Prop}
theorem rangeOps_some {l : List Oper} {ti tn tm : Nat} (h : rangeOps l = some (ti, tn, tm)) : ∃ o1 o2, l = [o1, o2] ∧ o1.op = .next (.tmp ti) false ∧ o1.dst = some tn ∧ o1.guard = none ∧ o2.op = .extract (.tmp tn) 0 ∧ o2.dst = some tm ∧ o2.guard = none ∧ tn ≠ tm := by
  unfold rangeOps at h
  split at h
  · rename_i o1 o2
    split at h
    · rename_i x tn' y tm' h1 h2 h3 h4 h5 h6
      split at h
      · rename_i ti' tn2
        obtain ⟨hc, h⟩ := cond_some h
        simp only [Bool.and_eq_true, Bool.not_eq_true', ← Bool.not_eq_true, Nat.beq_eq] at hc
        simp only [Option.some.injEq, Prod.mk.injEq] at h
        obtain ⟨rfl, rfl, rfl⟩ := h
        obtain ⟨rfl, hne⟩ := hc
        exact ⟨o1, o2, rfl, h1, h2, h3, h4, h5, h6, hne⟩
      · cases h
    · cases h
  · cases h
/-- one entry that is left, or none is -/
theorem step_sound (hsr : SR c S μ a w) {ti tn tm : Nat} (hops : rangeOps ops.toList = some (ti, tn, tm)) {id : Nat} {o m : Nat} {T U : Ty} {since : Nat} {cc : MapC T U} {D R : List (T.den × U.den × Nat)} (hti : S.slots.getD ti .undef = .it o) (hit : S.ob o = .iter m T U since (D.map (·.2.2)) none) (hmap : S.ob m = .map T U cc)
    (hperm : (D ++ R).Perm cc.1) (htn : tn < S.slots.length)
    (h0 : R = [] → ∀ a' w', SR c ((S.put (some tn) (.tup [.bool false])).put (some tm) (.bool false)) μ a' w' → Q .normal a' w')
    (h1 : ∀ e R', R.Perm (e :: R') → ∀ a' w', SR c (((S.setOb o (.iter m T U since ((D ++ [e]).map (·.2.2)) (some (e.1, e.2.1)))).put (some tn) (.tup [.bool true, explode T e.1, explode U e.2.1])).put (some tm) (.bool true)) μ a' w' → Q .normal a' w') :
    (Code.region id ops false).wp P Q a w := by
  obtain ⟨o1, o2, hl, g1, g2, g3, g4, g5, g6, hne⟩ := rangeOps_some hops
  have hsz : ops.size = 2 := by rw [← Array.length_toList, hl]; rfl
  have hi0 : ops[0]? = some o1 := by rw [← Array.getElem?_toList, hl]; rfl
  have hi1 : ops[1]? = some o2 := by rw [← Array.getElem?_toList, hl]; rfl
  refine wp_region ?_
  rw [hsz, show List.range 2 = [0, 1] from rfl]
  have hne' : ∀ o : Oper, o.guard = none → ∀ t, Region.wanted o t = true := fun o h t => by simp [Region.wanted, h]
  simp only [wpOps, hi0, hi1, hne' o1 g3, if_true, hne' o2 g6]
  refine .inl ?_
  have hiv := hsr.slots.opd (.tmp ti)
  simp only [opd, hti] at hiv
  have hmu := hiv.it hit
  have hor := hsr.objs.each o
  simp only [OR, hit] at hor
  obtain ⟨b, hb, hblt, hrest⟩ := hor
  obtain ⟨bm, mes, hm1, hm2, hm3, _⟩ := hrest (by rw [hmap]; rfl)
  have horm := hsr.objs.each m
  simp only [OR, hmap] at horm
  obtain ⟨bm', mes', hm4, hm5, hents, hbo⟩ := horm
  rw [hm1] at hm4
  simp only [Value.map.injEq, Option.some.injEq] at hm4
  subst hm4
  rw [hm3] at hm5
  simp only [Option.some.injEq, Obj.map.injEq] at hm5
  obtain ⟨rfl, hsince⟩ := hm5
  have hborn : ∀ e ∈ mes.toList, e.born < since := fun e he => by
    obtain ⟨x, hx, _, _, h5⟩ := hents.get e he
    rw [h5, hsince]; exact hbo.2 x hx
  have hnd : (mes.toList.map (·.born)).Nodup := by
    rw [hents.borns]
    exact (List.pairwise_map.2 hbo.1).imp (fun h => Nat.ne_of_lt h)
  have hev : a.eval (.tmp ti) = .pointer (some ⟨b, 0, none⟩) := by rw [← hmu, hb]
  have hsecond : ∀ (a' : Act) (w' : World) (S' : St) (pv : PV) (vs : Array Value) (bv : Bool), SR c S' μ a' w' → a'.eval (.tmp tn) = .tuple vs → vs[0]? = some (.bool bv) → (∀ a' w', SR c (S'.put (some tm) (.bool bv)) μ a' w' → Q .normal a' w') →
      o2.wp P a' w' (fun x y => Q .normal x y) Q := by
    intro a' w' S' pv vs bv hs' hv hv0 hQ
    refine wp_value (v := .bool bv) (w' := w') ?_ ?_
    · simp only [execOp, g4]
      refine run_val ?_
      simp [Instr.extract, hv, hv0]
    · refine hQ _ _ ?_
      rw [g5]
      exact ⟨by rw [put_defers]; exact hs'.defers, by rw [put_ob]; exact Slots.put hs'.slots rfl (.mk_bool _), by rw [put_ob]; exact hs'.objs, hs'.keep, by rw [put_ob]; exact hs'.mine⟩
  have hevn : ∀ (S' : St) (w' : World) (v : Value), S'.slots.length = a.tmps.size → tn < S'.slots.length → (a.put o1.dst v).eval (.tmp tn) = v := by
    intro S' w' v hsz hlt
    rw [g2]
    simp [Act.put, Act.eval, Array.getD, show tn < a.tmps.size by omega]
  have hlen : S.slots.length = a.tmps.size := hsr.slots.size.symm
  have hputSR : ∀ {S' : St} {a' : Act} {w' : World} {pv : PV} {v : Value}, SR c S' μ a' w' → VR w' (av c S'.ob μ) S'.ob μ pv v → SR c (S'.put (some tn) pv) μ (a'.put (some tn) v) w' := fun hs' hv =>
    ⟨by rw [put_defers]; exact hs'.defers, by rw [put_ob]; exact Slots.put hs'.slots rfl hv, by rw [put_ob]; exact hs'.objs, hs'.keep, by rw [put_ob]; exact hs'.mine⟩
  have hleft : ∀ e ∈ (leftOf mes (D.map (·.2.2)).toArray).toList, e ∈ mes.toList ∧ e.born ∉ D.map (·.2.2) := fun e he => by
    simp only [leftOf, Array.toList_filter, List.mem_filter] at he
    exact ⟨he.1, by simpa using he.2⟩
  have hin : ∀ x ∈ cc.1, x.2.2 ∉ D.map (·.2.2) → x ∈ R := fun x hx hn => by
    have := hperm.mem_iff.2 hx
    rcases List.mem_append.1 this with h | h
    · exact absurd (List.mem_map.2 ⟨x, h, rfl⟩) hn
    · exact h
  rcases run_next_at (P := P) w o1.type b bm since since (D.map (·.2.2)).toArray mes since hm2 hm3 hborn (Nat.le_refl _) with ⟨hz, hrun⟩ | ⟨e, he, w1, hw1, hrun⟩
  · have hR : R = [] := by
      cases hRe : R with
      | nil => rfl
      | cons x R' =>
        exfalso
        have hx : x ∈ cc.1 := hperm.mem_iff.1 (by rw [hRe]; simp)
        have hnd2 : (cc.1.map (·.2.2)).Nodup := by rw [← hents.borns]; exact hnd
        have hnd3 : ((D ++ R).map (·.2.2)).Nodup := (hperm.map _).nodup_iff.2 hnd2
        rw [hRe, List.map_append, List.map_cons] at hnd3
        have hxn : x.2.2 ∉ D.map (·.2.2) := fun h => by
          have := (List.nodup_append.1 hnd3).2.2 _ h x.2.2 (by simp)
          exact this rfl
        have : x.2.2 ∈ mes.toList.map (·.born) := by rw [hents.borns]; exact List.mem_map.2 ⟨x, hx, rfl⟩
        obtain ⟨e, he, heq⟩ := List.mem_map.1 this
        have : e ∈ (leftOf mes (D.map (·.2.2)).toArray).toList := by
          simp only [leftOf, Array.toList_filter, List.mem_filter]
          refine ⟨he, ?_⟩
          rw [heq]
          simpa using hxn
        have h0 : (leftOf mes (D.map (·.2.2)).toArray).toList = [] := by
          rw [← List.length_eq_zero_iff, Array.length_toList]; exact hz
        rw [h0] at this
        cases this
    refine wp_value (v := .tuple #[.bool false]) (w' := w) ?_ ?_
    · simp only [execOp, g1, hev]
      exact run_val hrun
    · have hs1 := hputSR (pv := .tup [.bool false]) (v := .tuple #[.bool false]) hsr (by
        refine .of_one ?_ rfl rfl
        simp only [CR, TRs]
        exact ⟨_, rfl, _, _, rfl, .inr ⟨rfl, rfl⟩, rfl⟩)
      rw [g2]
      refine .inl ?_
      refine hsecond _ _ _ .any #[.bool false] false hs1 ?_ rfl (fun a' w' h => h0 hR a' w' h)
      have := hevn S w (.tuple #[.bool false]) hlen htn
      rwa [g2] at this
  · obtain ⟨he1, he2⟩ := hleft e he
    obtain ⟨x, hx, k1, k2, k3⟩ := hents.get e he1
    have hxR : x ∈ R := hin x hx (by rw [← k3]; exact he2)
    obtain ⟨R', hR'⟩ := perm_split hxR
    have hkd : Keep None w w1 := by
      rcases hw1 with rfl | rfl
      · exact Keep.refl _ _
      · exact Keep.drew _ _
    have hw1h : w1.heap = w.heap := by rcases hw1 with rfl | rfl <;> rfl
    have hkp : Keep (· = b) w (ChangeMaps.setBlock w1 b (.mapIter (some bm) since ((D.map (·.2.2)).toArray.push e.born) since)) := by
      have h2 : Keep (· = b) w1 (ChangeMaps.setBlock w1 b (.mapIter (some bm) since ((D.map (·.2.2)).toArray.push e.born) since)) := by
        refine ⟨rfl, rfl, rfl, by simp [ChangeMaps.setBlock], fun _ => Nat.le_refl _, fun y _ _ => ?_, fun y hy hn => ?_, fun y cs t z hy => ?_⟩
        rotate_left 2
        · simp only [ChangeMaps.setBlock, Array.getElem?_setIfInBounds]
          by_cases e' : b = y
          · subst e'
            rw [hw1h, hm2] at hy; cases hy
          · rw [if_neg e']; exact ⟨cs, z, hy⟩
        · unfold World.frozen?
          simp only [ChangeMaps.setBlock, Array.getElem?_setIfInBounds]
          by_cases e' : b = y.block
          · subst e'
            rw [if_pos rfl, if_pos (by rw [hw1h]; exact hblt), hw1h, hm2]
          · rw [if_neg e']
        · simp only [ChangeMaps.setBlock, Array.getElem?_setIfInBounds]
          rw [if_neg (fun e => hn e.symm)]
      exact hkd.trans h2 (fun _ h => h.elim) (fun _ _ h => h)
    have hne2 : m ≠ o := fun h => by rw [h, hit] at hmap; cases hmap
    have hbne : bm ≠ b := fun h => by subst h; rw [hm2] at hm3; cases hm3
    have hav : av c S.ob μ b := .inr ⟨o, by rw [hit]; rfl, by rw [hb]; rfl⟩
    obtain ⟨hs1, _⟩ := hsr.write (o := o) (b := b) (nb := .iter m T U since ((D ++ [x]).map (·.2.2)) (some (x.1, x.2.1))) (by rw [hit]; rfl) (by rw [hb]; rfl) hkp (by unfold Later; rw [upd_same]; exact ⟨⟨_, _, _, _, hit⟩, rfl⟩) rfl (by
      unfold OR
      rw [upd_same]
      refine ⟨b, hb, Nat.lt_of_lt_of_le hblt hkp.size, fun _ => ⟨bm, mes, hm1, ?_, ?_, fun kv hkv => ?_⟩⟩
      · simp only [ChangeMaps.setBlock, Array.getElem?_setIfInBounds]
        simp only [if_true]
        rw [if_pos (by rw [hw1h]; exact hblt)]
        simp [k3]
      · rw [hkp.block bm (by
          rcases Nat.lt_or_ge bm w.heap.size with g | g
          · exact g
          · rw [Array.getElem?_eq_none g] at hm3; cases hm3) hbne]
        exact hm3
      · cases hkv
        refine ⟨x.2.2, e, by simp, ?_, (k1.keep hkp (fun _ _ h => h) (fun y e => by subst e; exact hav)).1, k1.2, (k2.keep hkp (fun _ _ h => h) (fun y e => by subst e; exact hav)).1, k2.2⟩
        rw [← k3, ← Array.find?_toList]
        exact find_of_born hnd e he1) (no_iter hsr (by rw [hit]; rfl) (fun bb h => by rw [hb] at h; cases h))
    refine wp_value (v := .tuple #[.bool true, e.key, e.val]) (w' := ChangeMaps.setBlock w1 b (.mapIter (some bm) since ((D.map (·.2.2)).toArray.push e.born) since)) ?_ ?_
    · simp only [execOp, g1, hev]
      exact run_val hrun
    · have hs2 := hputSR (pv := .tup [.bool true, explode T x.1, explode U x.2.1]) (v := .tuple #[.bool true, e.key, e.val]) hs1 (by
        refine .of_one ?_ rfl rfl
        simp only [CR, TRs]
        have hobw := ob_setOb S o (.iter m T U since ((D ++ [x]).map (·.2.2)) (some (x.1, x.2.1))) (by rw [hit]; rfl)
        have hav2 : ∀ y, y < w.heap.size → av c (S.setOb o (.iter m T U since ((D ++ [x]).map (·.2.2)) (some (x.1, x.2.1)))).ob μ y → av c S.ob μ y := fun y _ hy => hy.imp (fun h => h) (fun hy => by
          obtain ⟨o', q1, q2⟩ := hy
          rw [hobw] at q1
          by_cases e' : o' = o
          · exact ⟨o', by rw [e', hit]; rfl, q2⟩
          · rw [upd_other _ _ e'] at q1; exact ⟨o', q1, q2⟩)
        exact ⟨_, rfl, _, _, rfl, .inr ⟨rfl, rfl⟩, _, _, rfl, VR.data (k1.keep hkp hav2 (fun y e => by subst e; exact hav)).1 k1.2, _, _, rfl, VR.data (k2.keep hkp hav2 (fun y e => by subst e; exact hav)).1 k2.2, rfl⟩)
      rw [g2]
      refine .inl ?_
      refine hsecond _ _ _ .any #[.bool true, e.key, e.val] true hs2 ?_ rfl (fun a' w' h => h1 x R' hR' a' w' h)
      have := hevn S w (.tuple #[.bool true, e.key, e.val]) hlen htn
      rwa [g2] at this
end
end Go.Vm

/- Vm, part 21: control is right. Own work. -/
set_option linter.unusedVariables false
set_option linter.unusedSimpArgs false
set_option linter.unusedSectionVars false
namespace Go.Vm
variable [MonotC]
open Go.RowKit
section
variable {P : Program} {E : Env} {H : Hints} {c : Cx}
theorem SR.touch {S : St} {μ : Nat → Value} {a : Act} {w : World} (h : SR c S μ a w) (l : List Nat) : SR c (S.touch l) μ a w := ⟨h.defers, h.slots, h.objs, h.keep, h.mine⟩
/-- what holds behind: for each way out -/
structure Post (c : Cx) {σ : Type} (K : Kt σ) (r0 : σ) (m : Nat) (ds : List Nat) (S : St) (μ : Nat → Value) (Q : Exit → Act → World → Prop) : Prop where
  n : ∀ S' μ' a' w', K.n S' = some r0 → SR c S' μ' a' w' → Ag m ds S μ S' μ' → Q .normal a' w'
  x : ∀ j S' μ' a' w', K.x j S' = some r0 → SR c S' μ' a' w' → Ag m ds S μ S' μ' → Q (.exit j) a' w'
  r : ∀ S' μ' a' w', K.r S' = some r0 → SR c S' μ' a' w' → Ag m ds S μ S' μ' → Q .ret a' w'
def GoOK (P : Program) (c : Cx) (code : Code) (ds : List Nat) (S0 : St) (go : {τ : Type} → St → Kt τ → Option τ) : Prop :=
  ∀ {τ : Type} (S : St) (K : Kt τ) (r : τ) (μ : Nat → Value) (a : Act) (w : World) (n : Nat) (Q : Exit → Act → World → Prop), S.slots = S0.slots → S.objs = S0.objs → go S K = some r → SR c S μ a w → n ≤ S.objs.length → Post c K r n ds S μ Q → code.wp P Q a w
theorem Ag.touch {n : Nat} {ds : List Nat} {S S' : St} {μ μ' : Nat → Value} (h : Ag n ds (S.touch []) μ S' μ') (l : List Nat) (hl : ∀ i ∈ S'.touched, i ∈ l) (hs : ∀ i ∈ S.touched, i ∈ l) : Ag n ds S μ (S'.touch l) μ' :=
  ⟨h.len, h.slot, h.olen, fun i hi => (h.ob i hi).imp id (hl i), fun i hi => hs i hi, h.later⟩
theorem Ag.less {n m : Nat} {ds : List Nat} {S S' : St} {μ μ' : Nat → Value} (h : Ag n ds S μ S' μ') (hm : m ≤ n) : Ag m ds S μ S' μ' :=
  ⟨h.len, h.slot, Nat.le_trans hm h.olen, fun i hi => h.ob i (by omega), h.touched, fun i hi => h.later i (by omega)⟩
theorem meet_sound {code : Code} {h : Option SSh} {ds : List Nat} {S : St} {go : {τ : Type} → St → Kt τ → Option τ} (hgo : GoOK P c code ds S go) {σ : Type} {K : Kt σ} {r : σ} {μ : Nat → Value} {a : Act} {w : World} {n : Nat} {Q : Exit → Act → World → Prop}
    (he : meetK h ds S K go = some r) (hsr : SR c S μ a w) (hn : n ≤ S.objs.length) (hp : Post c K r n ds S μ Q) : code.wp P Q a w := by
  unfold meetK at he
  split at he
  · exact hgo S K r μ a w n Q rfl rfl he hsr hn hp
  · rename_i s
    obtain ⟨hfit, he⟩ := cond_some he
    obtain ⟨r1, h1, h2⟩ := Option.bind_eq_some_iff.1 he
    refine hgo (S.touch []) _ r1 μ a w S.objs.length Q rfl rfl h1 (hsr.touch []) (Nat.le_refl _) ⟨fun S' μ' a' w' hk hs hag => ?_, fun j S' μ' a' w' hk hs hag => ?_, fun S' μ' a' w' hk hs hag => ?_⟩
    · have hk' : s.take (S.touch []).objs.length S' (fun y => some (Sum.inr y)) = some r1 := hk
      obtain ⟨y, hy, μ2, h3, h4⟩ := join_sound (S0 := S.touch []) (s := s) (ds := ds) hfit hk' hs hag rfl
      simp only [Option.some.injEq] at hy
      subst hy
      simp only at h2
      exact hp.n _ μ2 a' w' h2 (h3.touch _) (Ag.less (h4.touch _ (fun i hi => by simp only [List.mem_append]; left; simpa [SSh.lay] using hi) (fun i hi => by simp [hi])) hn)
    · obtain ⟨z, hz, hz2⟩ := Option.map_eq_some_iff.1 hk
      subst hz2
      simp only [Option.some.injEq] at h2
      subst h2
      exact hp.x j _ μ' a' w' hz (hs.touch _) (Ag.less (hag.touch _ (fun i hi => by simp [hi]) (fun i hi => by simp [hi])) hn)
    · obtain ⟨z, hz, hz2⟩ := Option.map_eq_some_iff.1 hk
      subst hz2
      simp only [Option.some.injEq] at h2
      subst h2
      exact hp.r _ μ' a' w' hz (hs.touch _) (Ag.less (hag.touch _ (fun i hi => by simp [hi]) (fun i hi => by simp [hi])) hn)
/-! ### Ranges over maps -/
def iterOf (q : RangeAt) (D : List (q.K.den × q.V.den × Nat)) (cur : Option (q.K.den × q.V.den)) : OB := .iter q.m q.K q.V q.since (D.map (·.2.2)) cur
/-- with another object at a place -/
def St.setX (S : St) (o : Nat) (X : OB) : St := { S with objs := S.objs.set o X }
theorem setX_ob {S : St} {o : Nat} {X : OB} (h : o < S.objs.length) : (S.setX o X).ob = upd S.ob o X := by
  funext x
  simp only [St.ob, St.setX, upd, List.getD, List.getElem?_set]
  by_cases e : x = o
  · subst e; simp [h]
  · rw [if_neg (fun h => e h.symm), if_neg e]
theorem lay_setX {s : SSh} {S : St} {ds : List Nat} {y : s.den} {o : Nat} {X : OB} (h : o < S.objs.length) (h1 : o ∉ s.gone) (h2 : o ∉ s.objs.map (·.1)) : s.lay (S.setX o X) ds y = (s.lay S ds y).setX o X := (lay_set s S ds y h h1 h2).1
theorem lay_len {s : SSh} {S : St} {ds : List Nat} {y : s.den} {o : Nat} (h : o < S.objs.length) (h1 : o ∉ s.gone) (h2 : o ∉ s.objs.map (·.1)) : o < (s.lay S ds y).objs.length := Nat.lt_of_lt_of_le h (lay_set (X := .dead) s S ds y h h1 h2).2
theorem SR.uncur {S : St} {μ : Nat → Value} {a : Act} {w : World} (h : SR c S μ a w) {o m : Nat} {T U : Ty} {n : Nat} {l : List Nat} {cur : Option (T.den × U.den)} (ho : S.ob o = .iter m T U n l cur) : SR c (S.setX o (.iter m T U n l none)) μ a w := by
  have hal : (S.ob o).alive = true := by rw [ho]; rfl
  have hor := h.objs.each o
  simp only [OR, ho] at hor
  obtain ⟨b, hb, hlt, hr⟩ := hor
  obtain ⟨h1, _⟩ := h.write (o := o) (b := b) (w' := w) (nb := .iter m T U n l none) hal (by rw [hb]; rfl) (Keep.refl _ w) (by unfold Later; rw [upd_same]; exact ⟨⟨_, _, _, _, ho⟩, rfl⟩) rfl (by
    unfold OR
    rw [upd_same]
    refine ⟨b, hb, hlt, fun ha => ?_⟩
    by_cases e : m = o
    · subst e
      obtain ⟨bm, mes, g1, g2, g3, g4⟩ := hr hal
      exact ⟨bm, mes, g1, g2, g3, fun kv hkv => by cases hkv⟩
    · rw [upd_other _ _ e] at ha
      obtain ⟨bm, mes, g1, g2, g3, g4⟩ := hr ha
      exact ⟨bm, mes, g1, g2, g3, fun kv hkv => by cases hkv⟩) (no_iter h hal (fun bb hh => by rw [hb] at hh; cases hh))
  exact h1.congr rfl (by rw [ob_setOb _ _ _ hal, setX_ob (alive_lt hal)])
theorem rangeAt_some {S : St} {ti : Nat} {q : RangeAt} (h : rangeAt S ti = some q) : S.slots.getD ti .undef = .it q.o ∧ (∃ cur, S.ob q.o = .iter q.m q.K q.V q.since [] cur) ∧ ∃ cc : MapC q.K q.V, S.ob q.m = .map q.K q.V cc ∧ q.es = cc.1 := by
  unfold rangeAt at h
  split at h
  · rename_i o ho
    split at h
    · rename_i m T U since seen cur hit
      split at h
      · rename_i T' U' c hm
        obtain ⟨cc, hc, h⟩ := Option.bind_eq_some_iff.1 h
        obtain ⟨e1, e2, e3⟩ := castM_some hc
        subst e1; subst e2; subst e3
        split at h
        · simp only [Option.some.injEq] at h
          subst h
          exact ⟨ho, ⟨cur, hit⟩, c, hm, rfl⟩
        · cases h
      · cases h
    · cases h
  · cases h
theorem Ag.setX {n : Nat} {ds : List Nat} {S T : St} {μ μ' : Nat → Value} {o : Nat} {q : RangeAt} {D D' : List (q.K.den × q.V.den × Nat)} {cur cur' : Option (q.K.den × q.V.den)} (hS : o < S.objs.length) (hT : o < T.objs.length) (hon : o < n)
    (h : Ag n ds (S.setX o (iterOf q D cur)) μ (T.setX o (iterOf q D cur)) μ') : Ag n ds (S.setX o (iterOf q D' cur')) μ (T.setX o (iterOf q D' cur')) μ' := by
  refine ⟨h.len, h.slot, by simpa [St.setX] using h.olen, fun i hi => ?_, h.touched, fun i hi => ?_⟩
  · rw [setX_ob hS, setX_ob hT]
    by_cases e : i = o
    · subst e; left; rw [upd_same, upd_same]
    · rw [upd_other _ _ e, upd_other _ _ e]
      have := h.ob i hi
      rw [setX_ob hS, setX_ob hT, upd_other _ _ e, upd_other _ _ e] at this
      exact this
  · have := h.later i hi
    rw [setX_ob hS, setX_ob hT] at this ⊢
    unfold Later at this ⊢
    by_cases e : i = o
    · subst e
      rw [upd_same] at this ⊢
      simp only [iterOf] at this ⊢
      rw [upd_same]
      exact ⟨⟨_, _, _, _, rfl⟩, this.2⟩
    · rw [upd_other _ _ e] at this ⊢
      rw [upd_other _ _ e] at this ⊢
      exact this
theorem range_loop {hd out : SSh} {ex ti tn tm id : Nat} {ops : Array Oper} {rest : Code} {ds : List Nat} (hds : ds = dsts (.seq (.region id ops false) rest)) (hops : rangeOps ops.toList = some (ti, tn, tm)) {S : St} {q : RangeAt} (hq : rangeAt S ti = some q)
    (hfit1 : hd.fit S ds = true) (hfit2 : out.fit S ds = true) (hrf : rangeFit hd out S ds ti tn q.o q.m = true) {go : St → Kt (hd.den ⊕ out.den) → Option (hd.den ⊕ out.den)}
    (hgo : ∀ (S : St) (K : Kt (hd.den ⊕ out.den)) (r : hd.den ⊕ out.den) (μ : Nat → Value) (a : Act) (w : World) (n : Nat) (Q : Exit → Act → World → Prop), go S K = some r → SR c S μ a w → n ≤ S.objs.length → Post c K r n (dsts rest) S μ Q → rest.wp P Q a w)
    {μ : Nat → Value} {n : Nat} (hn : n ≤ S.objs.length) {Q : Exit → Act → World → Prop} {Good : Option out.den → Prop} (hsome : ∀ x, Good x → ∃ z, x = some z)
    (hfin : ∀ z μ' a' w', Good (some z) → SR c (S.ranged out ds q.o z) μ' a' w' → Ag n ds S μ (S.ranged out ds q.o z) μ' → Q (.exit ex) a' w') :
    ∀ (k : Nat) (R D : List (q.K.den × q.V.den × Nat)) (y : hd.den) (μ1 : Nat → Value) (a : Act) (w : World), R.length = k → (D ++ R).Perm q.es →
      (∀ l, l.Perm R → Good (rangeM (fun D e y => go (S.round hd ds tn tm q D e y) (rangeKt hd out S.objs.length ex)) (fun D y => go (S.over hd ds tn tm q D y) (rangeKt hd out S.objs.length ex)) l D y)) →
      SR c (hd.lay (S.setX q.o (iterOf q D none)) ds y) μ1 a w → Ag S.objs.length ds ((S.setX q.o (iterOf q D none)).touch []) μ (hd.lay (S.setX q.o (iterOf q D none)) ds y) μ1 → Code.rounds P (.seq (.region id ops false) rest) Q (k + 1) a w := by
  obtain ⟨hti, ⟨cur0, hit⟩, cc, hmap, hes⟩ := rangeAt_some hq
  have hol : q.o < S.objs.length := alive_lt (by rw [hit]; rfl)
  have hml : q.m < S.objs.length := alive_lt (by rw [hmap]; rfl)
  simp only [rangeFit, Bool.and_eq_true, Bool.not_eq_true', ← Bool.not_eq_true, mem_iff, disj_iff, Nat.beq_eq] at hrf
  obtain ⟨htn, htd, hd1, hd2, hom⟩ := hrf
  have htn : tn < S.slots.length := by simpa using htn
  have ho1 : q.o ∉ hd.gone := fun h => hd1 q.o (by simp) (List.mem_append_left _ h)
  have ho2 : q.o ∉ hd.objs.map (·.1) := fun h => hd1 q.o (by simp) (List.mem_append_right _ h)
  have ho3 : q.o ∉ out.gone := fun h => hd2 q.o (by simp) (List.mem_append_left _ h)
  have ho4 : q.o ∉ out.objs.map (·.1) := fun h => hd2 q.o (by simp) (List.mem_append_right _ h)
  have hm1 : q.m ∉ hd.gone := fun h => hd1 q.m (by simp) (List.mem_append_left _ h)
  have hm2 : q.m ∉ hd.objs.map (·.1) := fun h => hd1 q.m (by simp) (List.mem_append_right _ h)
  obtain ⟨o1, o2, hl, g1, g2, g3, g4, g5, g6, hne⟩ := rangeOps_some hops
  have htnds : tn ∈ ds := by rw [hds]; simp only [dsts, List.mem_append]; left; exact dstsOps_mem (o := o1) (by rw [hl]; simp) g2
  have htmds : tm ∈ ds := by rw [hds]; simp only [dsts, List.mem_append]; left; exact dstsOps_mem (o := o2) (by rw [hl]; simp) g5
  have hrds : ∀ t, t ∈ dsts rest → t ∈ ds := fun t ht => by rw [hds]; simp only [dsts, List.mem_append]; exact .inr ht
  have hoids : ∀ D cur, (iterOf q D cur).oids = (S.ob q.o).oids := fun D cur => by rw [hit]; rfl
  -- the same, however far
  have hlayX : ∀ (y : hd.den) (X : OB), hd.lay (S.setX q.o X) ds y = (hd.lay S ds y).setX q.o X := fun y X => lay_setX hol ho1 ho2
  have hlayl : ∀ y : hd.den, q.o < (hd.lay S ds y).objs.length := fun y => lay_len hol ho1 ho2
  have hputAg : ∀ {D : List (q.K.den × q.V.den × Nat)} {cur : Option (q.K.den × q.V.den)} {T : St} {μ1 : Nat → Value} {pv pv' : PV}, Ag S.objs.length ds ((S.setX q.o (iterOf q D cur)).touch []) μ T μ1 → Ag S.objs.length ds ((S.setX q.o (iterOf q D cur)).touch []) μ ((T.put (some tn) pv).put (some tm) pv') μ1 := by
    intro D cur T μ1 pv pv' h
    refine ⟨by rw [put_len, put_len]; exact h.len, fun t ht => ?_, by rw [put_objs, put_objs]; exact h.olen, fun i hi => by rw [put_ob, put_ob, put_touched, put_touched]; exact h.ob i hi, fun i hi => by rw [put_touched, put_touched]; exact h.touched i hi, fun i hi => by rw [put_ob, put_ob]; exact h.later i hi⟩
    rw [put_slots _ _ _ _ (fun e => ht (by cases e; exact htmds)), put_slots _ _ _ _ (fun e => ht (by cases e; exact htnds))]
    exact h.slot t ht
  have hbody : ∀ (D' : List (q.K.den × q.V.den × Nat)) (cur' : Option (q.K.den × q.V.den)) (S1 : St) (x : hd.den ⊕ out.den) (μ1 : Nat → Value) (a : Act) (w : World) (Qn : Act → World → Prop), go S1 (rangeKt hd out S.objs.length ex) = some x → SR c S1 μ1 a w → Ag S.objs.length ds ((S.setX q.o (iterOf q D' cur')).touch []) μ S1 μ1 →
      (∀ y', x = .inl y' → ∀ μ2 a' w', SR c (hd.lay (S.setX q.o (iterOf q D' none)) ds y') μ2 a' w' → Ag S.objs.length ds ((S.setX q.o (iterOf q D' none)).touch []) μ (hd.lay (S.setX q.o (iterOf q D' none)) ds y') μ2 → Qn a' w') →
      (∀ z, x = .inr z → Good (some z)) → rest.wp P (Exit.then Qn Q) a w := by
    intro D' cur' S1 x μ1 a w Qn hx hsr hag hinl hinr
    have hlen0 : ((S.setX q.o (iterOf q D' cur')).touch []).objs.length = S.objs.length := by simp [St.setX, St.touch]
    have hXob : ((S.setX q.o (iterOf q D' cur')).touch []).ob = upd S.ob q.o (iterOf q D' cur') := setX_ob (X := iterOf q D' cur') hol
    refine hgo S1 _ x μ1 a w S.objs.length _ hx hsr hag.olen ⟨fun S' μ' a' w' hk hs hag2 => ?_, fun j S' μ' a' w' hk hs hag2 => ?_, fun S' μ' a' w' hk hs hag2 => (by cases hk)⟩
    · have hk' : hd.take ((S.setX q.o (iterOf q D' cur')).touch []).objs.length S' (fun y => some (Sum.inl y)) = some x := by rw [hlen0]; exact hk
      obtain ⟨y2, hy, μ2, h5, h6⟩ := join_sound (S0 := (S.setX q.o (iterOf q D' cur')).touch []) (s := hd) (ds := ds) (fit_set hfit1 (hoids D' cur') hol) hk' hs (by rw [hlen0]; exact hag.trans hag2 (fun _ h => h) hrds) rfl
      simp only [Option.some.injEq] at hy
      rw [hlen0] at h6
      have h5' : SR c ((hd.lay S ds y2).setX q.o (iterOf q D' cur')) μ2 a' w' := by rw [← hlayX]; exact h5
      have h6' : Ag S.objs.length ds ((S.setX q.o (iterOf q D' cur')).touch []) μ (hd.lay (S.setX q.o (iterOf q D' cur')) ds y2) μ2 := h6
      refine hinl y2 hy.symm μ2 a' w' ?_ ?_
      · have h7 := h5'.uncur (o := q.o) (m := q.m) (T := q.K) (U := q.V) (n := q.since) (l := D'.map (·.2.2)) (cur := cur') (by rw [setX_ob (hlayl y2), upd_same]; rfl)
        rw [hlayX]
        refine h7.congr rfl ?_
        have hl2 : q.o < ((hd.lay S ds y2).setX q.o (iterOf q D' cur')).objs.length := by simpa [St.setX] using hlayl y2
        rw [setX_ob (hlayl y2), setX_ob hl2, setX_ob (hlayl y2)]
        funext i
        by_cases e : i = q.o
        · subst e; rw [upd_same, upd_same]; rfl
        · rw [upd_other _ _ e, upd_other _ _ e, upd_other _ _ e]
      · rw [hlayX] at h6' ⊢
        exact Ag.setX (S := S.touch []) (T := hd.lay S ds y2) (q := q) hol (hlayl y2) hol h6'
    · by_cases e : j = ex
      · subst e
        simp only [rangeKt, Nat.beq_refl, cond_true] at hk
        have hk' : out.take ((S.setX q.o (iterOf q D' cur')).touch []).objs.length S' (fun z => some (Sum.inr z)) = some x := by rw [hlen0]; exact hk
        obtain ⟨z, hz, μ2, h5, h6⟩ := join_sound (S0 := (S.setX q.o (iterOf q D' cur')).touch []) (s := out) (ds := ds) (fit_set hfit2 (hoids D' cur') hol) hk' hs (by rw [hlen0]; exact hag.trans hag2 (fun _ h => h) hrds) rfl
        simp only [Option.some.injEq] at hz
        rw [hlen0] at h6
        have hlX : out.lay (S.setX q.o (iterOf q D' cur')) ds z = (out.lay S ds z).setX q.o (iterOf q D' cur') := lay_setX hol ho3 ho4
        have hll : q.o < (out.lay S ds z).objs.length := lay_len hol ho3 ho4
        have h5' : SR c ((out.lay S ds z).setX q.o (iterOf q D' cur')) μ2 a' w' := by rw [← hlX]; exact h5
        have h6' : Ag S.objs.length ds ((S.setX q.o (iterOf q D' cur')).touch []) μ ((out.lay S ds z).setX q.o (iterOf q D' cur')) μ2 := by rw [← hlX]; exact h6
        have hal : (((out.lay S ds z).setX q.o (iterOf q D' cur')).ob q.o).alive = true := by rw [setX_ob hll, upd_same]; rfl
        have hal2 : ((out.lay S ds z).ob q.o).alive = true := by rw [lay_ob out S ds z hol ho3 ho4, hit]; rfl
        have hrob : (S.ranged out ds q.o z).ob = upd (out.lay S ds z).ob q.o .dead := ob_setOb _ _ _ hal2
        show Q (.exit j) a' w'
        refine hfin z μ2 a' w' (hinr z hz.symm) ((h5'.kill hal).congr rfl ?_) ?_
        · rw [hrob, ob_setOb _ _ _ hal, setX_ob hll]
          funext i
          by_cases e : i = q.o
          · subst e; rw [upd_same, upd_same]
          · rw [upd_other _ _ e, upd_other _ _ e, upd_other _ _ e]
        · refine ⟨h6'.len, h6'.slot, ?_, fun i hi => ?_, fun i hi => by simp [St.ranged, St.touch, hi], fun i hi => ?_⟩
          · have := h6'.olen
            simp only [St.setX, List.length_set] at this
            simp only [St.ranged, St.touch, St.setOb, List.length_set]
            omega
          · by_cases e : i = q.o
            · subst e; right; simp [St.ranged, St.touch]
            · have := h6'.ob i (by omega)
              rw [hXob, setX_ob hll, upd_other _ _ e, upd_other _ _ e] at this
              rw [hrob, upd_other _ _ e]
              refine this.imp (fun h => h) fun h => ?_
              simp only [St.setX, SSh.lay, List.mem_append] at h
              simp only [St.ranged, St.touch, List.mem_cons, List.mem_append]
              right; left; exact h
          · have := h6'.later i (by omega)
            rw [hXob, setX_ob hll] at this
            rw [hrob]
            unfold Later at this ⊢
            by_cases e : i = q.o
            · subst e; rw [upd_same]; trivial
            · rw [upd_other _ _ e] at this ⊢
              rw [upd_other _ _ e] at this
              exact this
      · have : Nat.beq j ex = false := by rw [← Bool.not_eq_true]; simpa using e
        simp only [rangeKt, this, cond_false] at hk
        cases hk
  intro k
  induction k with
  | zero =>
    intro R D y μ1 a w hk hperm hgood hsr hag
    have hR : R = [] := List.length_eq_zero_iff.1 hk
    subst hR
    rw [rounds_succ]
    have hlob : (hd.lay (S.setX q.o (iterOf q D none)) ds y).ob = upd (hd.lay S ds y).ob q.o (iterOf q D none) := by rw [hlayX, setX_ob (hlayl y)]
    have hslots : (hd.lay (S.setX q.o (iterOf q D none)) ds y).slots.getD ti .undef = .it q.o := by
      have := hag.slot ti htd
      simp only [List.getD, this]
      exact hti
    refine wp_seq (step_sound (o := q.o) (m := q.m) (T := q.K) (U := q.V) (since := q.since) (cc := cc) (D := D) (R := []) hsr hops hslots (by rw [hlob, upd_same]; rfl) ?_ (by rw [← hes]; exact hperm) ?_ (fun _ a' w' hs => ?_) (fun e R' he => ?_))
    · rw [hlob, upd_other _ _ (fun e => hom e.symm), lay_ob hd S ds y hml hm1 hm2]; exact hmap
    · rw [hag.len]; exact htn
    · have hgd := hgood [] (List.Perm.refl _)
      obtain ⟨z, hz⟩ := hsome _ hgd
      rw [hz] at hgd
      simp only [rangeM] at hz
      obtain ⟨x, hx, hz⟩ := Option.bind_eq_some_iff.1 hz
      refine hbody D none _ x μ1 a' w' _ hx hs (hputAg hag) (fun y' e => ?_) (fun z' e => ?_)
      · subst e; cases hz
      · subst e
        simp only [Option.some.injEq] at hz
        subst hz
        exact hgd
    · exact absurd he.length_eq (by simp)
  | succ k ih =>
    intro R D y μ1 a w hk hperm hgood hsr hag
    rw [rounds_succ]
    have hlob : (hd.lay (S.setX q.o (iterOf q D none)) ds y).ob = upd (hd.lay S ds y).ob q.o (iterOf q D none) := by rw [hlayX, setX_ob (hlayl y)]
    have hslots : (hd.lay (S.setX q.o (iterOf q D none)) ds y).slots.getD ti .undef = .it q.o := by
      have := hag.slot ti htd
      simp only [List.getD, this]
      exact hti
    refine wp_seq (step_sound (o := q.o) (m := q.m) (T := q.K) (U := q.V) (since := q.since) (cc := cc) (D := D) (R := R) hsr hops hslots (by rw [hlob, upd_same]; rfl) ?_ (by rw [← hes]; exact hperm) ?_ (fun hR a' w' hs => ?_) (fun e R' he a' w' hs => ?_))
    · rw [hlob, upd_other _ _ (fun e => hom e.symm), lay_ob hd S ds y hml hm1 hm2]; exact hmap
    · rw [hag.len]; exact htn
    · rw [hR] at hk; simp at hk
    · have hkr : R'.length = k := by have := he.length_eq; simp at this; omega
      have hgd := hgood (e :: R') he.symm
      obtain ⟨z, hz⟩ := hsome _ hgd
      rw [hz] at hgd
      simp only [rangeM] at hz
      obtain ⟨x, hx, hz⟩ := Option.bind_eq_some_iff.1 hz
      have hse : SR c (S.round hd ds tn tm q D e y) μ1 a' w' := by
        refine hs.congr ?_ ?_
        · show ((((hd.lay (S.setX q.o _) ds y).put _ _).put _ _).slots) = _
          rw [hlayX, hlayX]
          rfl
        · show ((((hd.lay (S.setX q.o _) ds y).put _ _).put _ _).ob) = _
          rw [put_ob, put_ob, put_ob, put_ob, hlayX, setX_ob (hlayl y)]
          rw [ob_setOb _ _ _ (by rw [hlob, upd_same]; rfl), hlob]
          funext i
          by_cases e' : i = q.o
          · subst e'; rw [upd_same, upd_same]
          · rw [upd_other _ _ e', upd_other _ _ e', upd_other _ _ e']
      have hage : Ag S.objs.length ds ((S.setX q.o (iterOf q (D ++ [e]) (some (e.1, e.2.1)))).touch []) μ (S.round hd ds tn tm q D e y) μ1 := by
        refine hputAg ?_
        show Ag _ _ _ _ (hd.lay (S.setX q.o (iterOf q (D ++ [e]) (some (e.1, e.2.1)))) ds y) _
        rw [hlayX] at hag ⊢
        exact Ag.setX (S := S.touch []) (T := hd.lay S ds y) (q := q) hol (hlayl y) hol hag
      refine hbody (D ++ [e]) (some (e.1, e.2.1)) _ x μ1 a' w' _ hx hse hage (fun y' ex' μ2 a2 w2 h5 h6 => ?_) (fun z' e' => ?_)
      · subst ex'
        refine ih R' (D ++ [e]) y' μ2 a2 w2 hkr ?_ (fun l hl => ?_) h5 h6
        · rw [List.append_assoc, List.singleton_append]
          exact (he.symm.append_left D).trans hperm
        · have := hgood (e :: l) ((hl.cons e).trans he.symm)
          simp only [rangeM, hx, Option.bind_some] at this
          exact this
      · subst e'
        simp only [Option.some.injEq] at hz
        subst hz
        exact hgd
theorem anyOrder_some {α τ : Type} {es : List α} {F : List α → Option τ} {z : τ} (h : anyOrder es F = some z) : ∀ l, l.Perm es → F l = some z := by
  unfold anyOrder at h
  split at h
  · rename_i hall
    exact fun l hl => (hall l hl).trans h
  · cases h
theorem rangeOf_some {ti tn tm : Nat} {s rest : Code} (h : rangeOf (.seq s rest) = some (ti, tn, tm)) : ∃ id ops, s = .region id ops false ∧ rangeOps ops.toList = some (ti, tn, tm) := by
  unfold rangeOf at h
  simp only at h
  split at h
  · rename_i id ops draw
    cases draw with
    | true => simp only [cond_true] at h; cases h
    | false => exact ⟨id, ops, rfl, by simpa only [cond_false] using h⟩
  · cases h
theorem range_start {hd out : SSh} {ti tn : Nat} {ds : List Nat} {S : St} {q : RangeAt} (hq : rangeAt S ti = some q) (hrf : rangeFit hd out S ds ti tn q.o q.m = true) {μ μ1 : Nat → Value} {a : Act} {w : World} {y : hd.den}
    (hsr : SR c (hd.lay (S.touch []) ds y) μ1 a w) (hag : Ag S.objs.length ds (S.touch []) μ (hd.lay (S.touch []) ds y) μ1) :
    SR c (hd.lay (S.setX q.o (iterOf q [] none)) ds y) μ1 a w ∧ Ag S.objs.length ds ((S.setX q.o (iterOf q [] none)).touch []) μ (hd.lay (S.setX q.o (iterOf q [] none)) ds y) μ1 := by
  obtain ⟨hti, ⟨cur0, hit⟩, cc, hmap, hes⟩ := rangeAt_some hq
  have hol : q.o < S.objs.length := alive_lt (by rw [hit]; rfl)
  simp only [rangeFit, Bool.and_eq_true, Bool.not_eq_true', ← Bool.not_eq_true, mem_iff, disj_iff, Nat.beq_eq] at hrf
  obtain ⟨htn, htd, hd1, hd2, hom⟩ := hrf
  have ho1 : q.o ∉ hd.gone := fun h => hd1 q.o (by simp) (List.mem_append_left _ h)
  have ho2 : q.o ∉ hd.objs.map (·.1) := fun h => hd1 q.o (by simp) (List.mem_append_right _ h)
  have hll : q.o < (hd.lay S ds y).objs.length := lay_len hol ho1 ho2
  have hlX : hd.lay (S.setX q.o (iterOf q [] none)) ds y = (hd.lay S ds y).setX q.o (iterOf q [] none) := lay_setX hol ho1 ho2
  have hob0 : (hd.lay S ds y).ob q.o = iterOf q [] cur0 := by rw [lay_ob hd S ds y hol ho1 ho2]; exact hit
  have hs : SR c (hd.lay S ds y) μ1 a w := hsr
  have ha : Ag S.objs.length ds (S.touch []) μ (hd.lay S ds y) μ1 := hag
  rw [hlX]
  refine ⟨hs.uncur hob0, ⟨ha.len, ha.slot, by simpa [St.setX] using ha.olen, fun i hi => ?_, ha.touched, fun i hi => ?_⟩⟩
  · rw [setX_ob hll]
    show _ = ((S.setX q.o (iterOf q [] none)).ob i) ∨ _
    rw [setX_ob hol]
    by_cases e : i = q.o
    · subst e; left; rw [upd_same, upd_same]
    · rw [upd_other _ _ e, upd_other _ _ e]; exact ha.ob i hi
  · have := ha.later i hi
    show Later (S.setX q.o (iterOf q [] none)).ob μ _ μ1 i
    rw [setX_ob hll, setX_ob hol]
    have h0 : (S.touch []).ob = S.ob := rfl
    rw [h0] at this
    unfold Later at this ⊢
    by_cases e : i = q.o
    · subst e
      rw [hob0] at this
      rw [upd_same]
      simp only [iterOf] at this ⊢
      rw [upd_same]
      exact ⟨⟨_, _, _, _, rfl⟩, this.2⟩
    · rw [upd_other _ _ e]
      rw [upd_other _ _ e]
      exact this
/-- THE EVALUATOR IS RIGHT. -/
theorem ev_sound (hE : EnvC P E c) (hm : P.follows .mixedOrders = true) {k : Nat} : ∀ (code : Code) (i : Nat) {σ : Type} (S : St) (K : Kt σ) (r : σ) (μ : Nat → Value) (a : Act) (w : World) (n : Nat) (Q : Exit → Act → World → Prop),
    ev E H k code i S K = some r → SR c S μ a w → n ≤ S.objs.length → Post c K r n (dsts code) S μ Q → code.wp P Q a w
  | .skip, i, σ, S, K, r, μ, a, w, n, Q, h, hsr, hn, hp => wp_skip (hp.n S μ a w h hsr (Ag.refl _ hn))
  | .ret, i, σ, S, K, r, μ, a, w, n, Q, h, hsr, hn, hp => wp_ret (hp.r S μ a w h hsr (Ag.refl _ hn))
  | .exit id, i, σ, S, K, r, μ, a, w, n, Q, h, hsr, hn, hp => wp_exit (hp.x id S μ a w h hsr (Ag.refl _ hn))
  | .region id ops draw, i, σ, S, K, r, μ, a, w, n, Q, h, hsr, hn, hp => by
    refine meet_sound (ds := dstsOps ops.toList) (S := S) (n := n) ?_ h hsr hn hp
    intro τ S1 K r μ a w n Q _ _ h hsr hn hp
    exact region_sound hE hm h hsr (fun o ho t ht => dstsOps_mem ho ht) hn (fun S' μ' a' w' h1 h2 h3 => hp.n S' μ' a' w' h1 h2 h3)
  | .seq x y, i, σ, S, K, r, μ, a, w, n, Q, h, hsr, hn, hp => by
    refine wp_seq (ev_sound hE hm x i S _ r μ a w n _ h hsr hn ⟨fun S' μ' a' w' hk hs hag => ?_, fun j S' μ' a' w' hk hs hag => ?_, fun S' μ' a' w' hk hs hag => ?_⟩)
    · have cov : ∀ {S2 : St} {μ2 : Nat → Value}, Ag n (dsts y) S' μ' S2 μ2 → Ag n (dsts (.seq x y)) S μ S2 μ2 := fun h => hag.trans h (fun t ht => by simp [dsts, ht]) (fun t ht => by simp [dsts, ht])
      exact ev_sound hE hm y i S' K r μ' a' w' n Q hk hs hag.olen ⟨fun S2 μ2 a2 w2 h1 h2 h3 => hp.n S2 μ2 a2 w2 h1 h2 (cov h3), fun j S2 μ2 a2 w2 h1 h2 h3 => hp.x j S2 μ2 a2 w2 h1 h2 (cov h3), fun S2 μ2 a2 w2 h1 h2 h3 => hp.r S2 μ2 a2 w2 h1 h2 (cov h3)⟩
    · exact hp.x j S' μ' a' w' hk hs (hag.mono (fun t ht => by simp [dsts, ht]))
    · exact hp.r S' μ' a' w' hk hs (hag.mono (fun t ht => by simp [dsts, ht]))
  | .cond q x y, i, σ, S, K, r, μ, a, w, n, Q, h, hsr, hn, hp => by
    simp only [ev] at h
    split at h
    · rename_i t
      split at h
      · rename_i v hv
        refine meet_sound (ds := dsts (.cond (.tmp t) x y)) (S := S) (n := n) ?_ (by simpa only [dsts, List.singleton_append, List.cons_append, List.nil_append] using h) hsr hn hp
        intro τ S1 K r μ a w n Q e1 e2 h hsr hn hp
        have hv1 : S1.slots.getD t .undef = .bool v := by rw [e1]; exact hv
        have hev : a.eval (.tmp t) = .bool v := by
          have := hsr.slots.opd (.tmp t)
          simp only [opd, hv1] at this
          exact this.bool
        refine wp_cond_split hev (fun ht => ?_) (fun hf => ?_)
        · subst ht
          simp only [cond_true] at h
          rw [set_same hv1] at h
          exact ev_sound hE hm x i S1 K r μ a w n Q h hsr hn ⟨fun S2 μ2 a2 w2 h1 h2 h3 => hp.n S2 μ2 a2 w2 h1 h2 (h3.mono (fun t ht => by simp [dsts, ht])), fun j S2 μ2 a2 w2 h1 h2 h3 => hp.x j S2 μ2 a2 w2 h1 h2 (h3.mono (fun t ht => by simp [dsts, ht])), fun S2 μ2 a2 w2 h1 h2 h3 => hp.r S2 μ2 a2 w2 h1 h2 (h3.mono (fun t ht => by simp [dsts, ht]))⟩
        · subst hf
          simp only [cond_false] at h
          rw [set_same hv1] at h
          exact ev_sound hE hm y i S1 K r μ a w n Q h hsr hn ⟨fun S2 μ2 a2 w2 h1 h2 h3 => hp.n S2 μ2 a2 w2 h1 h2 (h3.mono (fun t ht => by simp [dsts, ht])), fun j S2 μ2 a2 w2 h1 h2 h3 => hp.x j S2 μ2 a2 w2 h1 h2 (h3.mono (fun t ht => by simp [dsts, ht])), fun S2 μ2 a2 w2 h1 h2 h3 => hp.r S2 μ2 a2 w2 h1 h2 (h3.mono (fun t ht => by simp [dsts, ht]))⟩
      · cases h
    · rename_i q
      split at h
      · rename_i v
        refine wp_cond_split (t := v) rfl (fun ht => ?_) (fun hf => ?_)
        · subst ht
          simp only [cond_true] at h
          exact ev_sound hE hm x i S K r μ a w n Q h hsr hn ⟨fun S2 μ2 a2 w2 h1 h2 h3 => hp.n S2 μ2 a2 w2 h1 h2 (h3.mono (fun t ht => by simp [dsts, ht])), fun j S2 μ2 a2 w2 h1 h2 h3 => hp.x j S2 μ2 a2 w2 h1 h2 (h3.mono (fun t ht => by simp [dsts, ht])), fun S2 μ2 a2 w2 h1 h2 h3 => hp.r S2 μ2 a2 w2 h1 h2 (h3.mono (fun t ht => by simp [dsts, ht]))⟩
        · subst hf
          simp only [cond_false] at h
          exact ev_sound hE hm y i S K r μ a w n Q h hsr hn ⟨fun S2 μ2 a2 w2 h1 h2 h3 => hp.n S2 μ2 a2 w2 h1 h2 (h3.mono (fun t ht => by simp [dsts, ht])), fun j S2 μ2 a2 w2 h1 h2 h3 => hp.x j S2 μ2 a2 w2 h1 h2 (h3.mono (fun t ht => by simp [dsts, ht])), fun S2 μ2 a2 w2 h1 h2 h3 => hp.r S2 μ2 a2 w2 h1 h2 (h3.mono (fun t ht => by simp [dsts, ht]))⟩
      · cases h
    · cases h
  | .block id x, i, σ, S, K, r, μ, a, w, n, Q, h, hsr, hn, hp => by
    refine meet_sound (ds := dsts x) (S := S) (n := n) ?_ h hsr hn hp
    intro τ S1 K2 r2 μ a w n Q _ _ h hsr hn hp2
    refine wp_block (ev_sound hE hm x id S1 _ r2 μ a w n _ h hsr hn ⟨fun S2 μ2 a2 w2 h1 h2 h3 => hp2.n S2 μ2 a2 w2 h1 h2 h3, fun j S2 μ2 a2 w2 h1 h2 h3 => ?_, fun S2 μ2 a2 w2 h1 h2 h3 => hp2.r S2 μ2 a2 w2 h1 h2 h3⟩)
    simp only [Exit.inBlock]
    by_cases e : j = id
    · subst e
      simp only [Nat.beq_refl, cond_true] at h1
      rw [if_pos rfl]
      exact hp2.n S2 μ2 a2 w2 h1 h2 h3
    · have : Nat.beq j id = false := by rw [← Bool.not_eq_true]; simpa using e
      simp only [this, cond_false] at h1
      rw [if_neg e]
      exact hp2.x j S2 μ2 a2 w2 h1 h2 h3
  | .loop x, i, σ, S, K, r, μ, a, w, n, Q, h, hsr, hn, hp => by
    simp only [ev] at h
    split at h
    · refine wp_loop_rounds k ?_
      have hkey : ∀ (m : Nat) (S' : St) (μ' : Nat → Value) (a : Act) (w : World), unroll m (fun S n => ev E H k x i S { K with n := n }) S' = some r → SR c S' μ' a w → Ag n (dsts x) S μ S' μ' → Code.rounds P x Q m a w := by
        intro m
        induction m with
        | zero => intro S' μ' a w h; simp [unroll] at h
        | succ m ih =>
          intro S' μ' a w h hs hag
          simp only [unroll] at h
          rw [rounds_succ]
          exact ev_sound hE hm x i S' _ r μ' a w n _ h hs hag.olen ⟨fun S2 μ2 a2 w2 h1 h2 h3 => ih S2 μ2 a2 w2 h1 h2 (hag.trans h3 (fun _ h => h) (fun _ h => h)), fun j S2 μ2 a2 w2 h1 h2 h3 => hp.x j S2 μ2 a2 w2 h1 h2 (hag.trans h3 (fun _ h => h) (fun _ h => h)), fun S2 μ2 a2 w2 h1 h2 h3 => hp.r S2 μ2 a2 w2 h1 h2 (hag.trans h3 (fun _ h => h) (fun _ h => h))⟩
      exact hkey k S μ a w h hsr (Ag.refl _ hn)
    · rename_i hd ex out hH
      split at h
      · rename_i ti tn tm hro
        split at h
        · rename_i s rest
          split at h
          · rename_i q hq
            obtain ⟨hfit, h⟩ := cond_some h
            simp only [Bool.and_eq_true] at hfit
            obtain ⟨⟨hfit1, hfit2⟩, hrf⟩ := hfit
            obtain ⟨id, ops, rfl, hops⟩ := rangeOf_some hro
            have hS0 : Ag S.objs.length (dsts (.seq (.region id ops false) rest)) (S.touch []) μ (S.touch []) μ := Ag.refl _ (Nat.le_refl _)
            obtain ⟨y0, h, μ1, hsr1, hag1⟩ := join_sound (S0 := S.touch []) (s := hd) (ds := dsts (.seq (.region id ops false) rest)) hfit1 h (hsr.touch []) hS0 rfl
            obtain ⟨z0, hz0, h⟩ := Option.bind_eq_some_iff.1 h
            have hall := anyOrder_some hz0
            refine wp_loop_rounds (q.es.length + 1) ?_
            obtain ⟨hs1, hs2⟩ := range_start (ds := dsts (.seq (.region id ops false) rest)) hq hrf hsr1 hag1
            refine range_loop (P := P) (c := c) rfl hops hq hfit1 hfit2 hrf (go := fun S K => ev E H k rest i S K) (fun S K r μ a w n Q h hs hn hp => ev_sound hE hm rest i S K r μ a w n Q h hs hn hp) hn (Good := fun x => x = some z0) (fun x hx => ⟨z0, hx⟩)
              (fun z μ' a' w' hg hs hag => ?_) q.es.length q.es [] y0 μ1 a w rfl (by simp) (fun l hl => hall l hl) hs1 hs2
            simp only [Option.some.injEq] at hg
            subst hg
            exact hp.x ex _ μ' a' w' h hs hag
          · cases h
        · cases h
      obtain ⟨hfit, h⟩ := cond_some h
      simp only [Bool.and_eq_true] at hfit
      obtain ⟨hfit1, hfit2⟩ := hfit
      have hS0 : Ag S.objs.length (dsts x) (S.touch []) μ (S.touch []) μ := Ag.refl _ (Nat.le_refl _)
      obtain ⟨y0, h, μ1, hsr1, hag1⟩ := join_sound (S0 := S.touch []) (s := hd) (ds := dsts x) hfit1 h (hsr.touch []) hS0 rfl
      obtain ⟨r1, h1, h2⟩ := Option.bind_eq_some_iff.1 h
      refine wp_loop_rounds k ?_
      have hkey : ∀ (k' : Nat) (y : hd.den) (μ1 : Nat → Value) (a : Act) (w : World), iter (τ := σ ⊕ out.den) k' (fun y =>
            ev E H k x i (σ := hd.den ⊕ (σ ⊕ out.den)) (hd.lay S (dsts x) y)
              { n := fun S' => hd.take S.objs.length S' fun y => some (.inl y)
                x := fun j S' => cond (Nat.beq j ex) (out.take S.objs.length S' fun z => some (.inr (.inr z))) none
                r := fun S' => (K.r (S'.touch (S'.touched ++ S.touched))).map fun z => .inr (.inl z) }) y = some r1 →
          SR c (hd.lay S (dsts x) y) μ1 a w → Ag S.objs.length (dsts x) (S.touch []) μ (hd.lay S (dsts x) y) μ1 → Code.rounds P x Q k' a w := by
        intro k'
        induction k' with
        | zero => intro y μ1 a w h; simp [iter] at h
        | succ k' ih =>
          intro y μ1 a w h hsr1 hag1
          simp only [iter] at h
          obtain ⟨r2, h3, h4⟩ := Option.bind_eq_some_iff.1 h
          rw [rounds_succ]
          refine ev_sound hE hm x i _ _ r2 μ1 a w S.objs.length _ h3 hsr1 hag1.olen ⟨fun S' μ' a' w' hk hs hag => ?_, fun j S' μ' a' w' hk hs hag => ?_, fun S' μ' a' w' hk hs hag => ?_⟩
          · have hk' : hd.take (S.touch []).objs.length S' (fun y => some (Sum.inl y)) = some r2 := hk
            obtain ⟨y2, hy, μ2, h5, h6⟩ := join_sound (S0 := S.touch []) (s := hd) (ds := dsts x) hfit1 hk' hs (hag1.trans hag (fun _ h => h) (fun _ h => h)) rfl
            simp only [Option.some.injEq] at hy
            subst hy
            simp only at h4
            exact ih y2 μ2 a' w' h4 h5 h6
          · by_cases e : j = ex
            · subst e
              simp only [Nat.beq_refl, cond_true] at hk
              have hk' : out.take (S.touch []).objs.length S' (fun z => some (Sum.inr (Sum.inr z))) = some r2 := hk
              obtain ⟨y2, hy, μ2, h5, h6⟩ := join_sound (S0 := S.touch []) (s := out) (ds := dsts x) hfit2 hk' hs (hag1.trans hag (fun _ h => h) (fun _ h => h)) rfl
              simp only [Option.some.injEq] at hy
              subst hy
              simp only [Option.some.injEq] at h4
              subst h4
              simp only at h2
              exact hp.x j _ μ2 a' w' h2 (h5.touch _) (Ag.less (h6.touch _ (fun i hi => by simp only [List.mem_append]; left; simpa [SSh.lay] using hi) (fun i hi => by simp [hi])) hn)
            · have : Nat.beq j ex = false := by rw [← Bool.not_eq_true]; simpa using e
              simp only [this, cond_false] at hk
              cases hk
          · obtain ⟨z, hz, hz2⟩ := Option.map_eq_some_iff.1 hk
            subst hz2
            simp only [Option.some.injEq] at h4
            subst h4
            simp only [Option.some.injEq] at h2
            subst h2
            exact hp.r _ μ' a' w' hz (hs.touch _) (Ag.less ((hag1.trans hag (fun _ h => h) (fun _ h => h)).touch _ (fun i hi => by simp [hi]) (fun i hi => by simp [hi])) hn)
      exact hkey k y0 μ1 a w h1 hsr1 hag1
end
end Go.Vm

/- Vm, part 22: functions. Own work. -/
set_option linter.unusedVariables false
set_option linter.unusedSimpArgs false
set_option linter.unusedSectionVars false
namespace Go.Vm
variable [MonotC]
open Go.RowKit
section
variable {ρ : Type}
/-- the results of a function -/
def retL (E : Env) (S : St) : List ResultVar → Option (List PV)
  | [] => some []
  | .tmp t :: l => (retL E S l).bind fun vs => some (S.slots.getD t .undef :: vs)
  | .cell a t :: l => match E.td t with
    | some d => match S.slots.getD a .undef with
      | .ptr ob p => match S.ob ob with
        | .box _ v => cond (d.fits (getPath v p)) ((retL E S l).bind fun vs => some (getPath v p :: vs)) none
        | _ => none
      | _ => none
    | none => none
def retK (E : Env) (S : St) (rs : List ResultVar) (K : PV → List OB → Option ρ) : Option ρ :=
  match retL E S rs with
  | some [v] => K v S.objs
  | some vs => K (.tup vs) S.objs
  | none => none
/-- a function, from its arguments and the objects that they lead to -/
noncomputable def evFun (E : Env) (H : Hints) (k : Nat) (code : Code) (nt : Nat) (rs : List ResultVar) (args : List PV) (objs : List OB) (K : PV → List OB → Option ρ) : Option ρ :=
  ev { E with give := objs.isEmpty } H k code 0 { slots := args ++ List.replicate (nt - args.length) .undef, objs := objs, touched := [] }
    { n := fun S => retK E S rs K, x := fun _ _ => none, r := fun S => retK E S rs K }
/-- functions by number -/
def calls : List (Nat × FSem) → Nat → FSem
  | [], _ => .never
  | p :: l, f => cond (Nat.beq p.1 f) p.2 (calls l f)
theorem calls_sound {P : Program} : ∀ (l : List (Nat × FSem)), (∀ p ∈ l, SoundF P p.1 p.2) → ∀ f, SoundF P f (calls l f)
  | [], _, f => SoundF.never P f
  | p :: l, h, f => by
    simp only [calls]
    by_cases e : p.1 = f
    · subst e
      simp only [Nat.beq_refl, cond_true]
      exact h p (by simp)
    · have : Nat.beq p.1 f = false := by rw [← Bool.not_eq_true]; simpa using e
      rw [this]
      exact calls_sound l (fun q hq => h q (by simp [hq])) f
end
section
variable {P : Program} {E : Env} {c : Cx} {S : St} {μ : Nat → Value} {a : Act} {w : World}
def retV (tmps : Array Value) : ResultVar → Sem Value
  | .tmp t => pure (tmps.getD t undef)
  | .cell a t => do loadVar t (← asAddr (tmps.getD a undef))
theorem retL_sound (hE : EnvTy P E) (hsr : SR c S μ a w) : ∀ (rs : List ResultVar) (vs : List PV), retL E S rs = some vs → ∃ xs : List Value, (rs.mapM (retV a.tmps)).run P w = .ok xs w ∧ TRs w (av c S.ob μ) S.ob μ vs xs
  | [], vs, h => by
    simp only [retL, Option.some.injEq] at h
    subst h
    exact ⟨[], by simp, by simp only [TRs]⟩
  | .tmp t :: l, vs, h => by
    simp only [retL] at h
    obtain ⟨us, h1, h2⟩ := Option.bind_eq_some_iff.1 h
    cases h2
    obtain ⟨xs, h3, h4⟩ := retL_sound hE hsr l us h1
    refine ⟨a.tmps.getD t undef :: xs, ?_, ?_⟩
    · simp [List.mapM_cons, retV, h3, Result.andThen]
    · simp only [TRs]
      exact ⟨_, _, rfl, hsr.slots.opd (.tmp t), h4⟩
  | .cell x t :: l, vs, h => by
    simp only [retL] at h
    split at h
    · rename_i d hd
      have hd' := hE _ _ hd
      have hv := hsr.slots.opd (.tmp x)
      simp only [opd, Act.eval] at hv
      split at h
      · rename_i ob p hx
        rw [hx] at hv
        split at h
        · rename_i d0 v hob
          obtain ⟨hfit, h⟩ := cond_some h
          obtain ⟨us, h1, h2⟩ := Option.bind_eq_some_iff.1 h
          cases h2
          obtain ⟨xs, h3, h4⟩ := retL_sound hE hsr l us h1
          obtain ⟨b, off, d', hm, hoff, e⟩ := hv.ptr hob
          have hor := hsr.objs.each ob
          simp only [OR, hob] at hor
          obtain ⟨b', cs, tt, hm', hheap, hfits, hcr, _⟩ := hor
          rw [hm] at hm'
          simp only [Value.pointer.injEq, Option.some.injEq, Addr.mk.injEq] at hm'
          obtain ⟨rfl, _, _⟩ := hm'
          obtain ⟨g1, g2, g3, _⟩ := TD.path_sound _ _ _ _ _ _ hfits hcr hoff
          have hl := TD.fits_len _ _ _ hfits hcr
          have hlen := TD.fits_len _ _ _ hfit g1
          have hlie : LiesAt w b off ((cs.toList.drop off).take d'.cells) := fun j v hj => by
            rw [List.getElem?_take] at hj
            split at hj
            · rw [List.getElem?_drop] at hj
              simp only [World.cell?, hheap]
              simpa using hj
            · cases hj
          refine ⟨wrapV d.isAgg ((cs.toList.drop off).take d'.cells) :: xs, ?_, ?_⟩
          · have hload := run_loadVar' (P := P) (w := w) hd' hlie hlen
            simp only [List.mapM_cons, retV, Sem.run_bind, e, asAddr, Sem.run_pure, Result.andThen, hload, h3]
          · simp only [TRs]
            exact ⟨_, _, rfl, VR.of_cells g1 (TD.fits_agg hfit), h4⟩
        · cases h
      · cases h
    · cases h
theorem TRs.len {w : World} {A : Nat → Prop} {ob : Nat → OB} {μ : Nat → Value} : ∀ {l : List PV} {vs : List Value}, TRs w A ob μ l vs → vs.length = l.length
  | [], vs, h => by simp only [TRs] at h; subst h; rfl
  | v :: l, vs, h => by
    simp only [TRs] at h
    obtain ⟨x, r, rfl, _, h⟩ := h
    simp [TRs.len h]
theorem TRs.each {w : World} {A : Nat → Prop} {ob : Nat → OB} {μ : Nat → Value} : ∀ {l : List PV} {vs : List Value}, TRs w A ob μ l vs → ∀ (t : Nat) (v : PV), l[t]? = some v → ∃ x : Value, vs[t]? = some x ∧ VR w A ob μ v x
  | [], vs, h, t, v, hv => by simp at hv
  | u :: l, vs, h, 0, v, hv => by
    simp only [TRs] at h
    obtain ⟨x, r, rfl, h1, h⟩ := h
    simp only [List.getElem?_cons_zero, Option.some.injEq] at hv
    subst hv
    exact ⟨x, rfl, h1⟩
  | u :: l, vs, h, t + 1, v, hv => by
    simp only [TRs] at h
    obtain ⟨x, r, rfl, h1, h⟩ := h
    simp only [List.getElem?_cons_succ] at hv ⊢
    exact TRs.each h t v hv
theorem results_eq (fn : Func) (tmps : Array Value) : results fn tmps = (do let vs ← fn.results.mapM (retV tmps); pure (if h : vs.size = 1 then vs[0] else .tuple vs)) := rfl
/-- what a function's call does, whatever reads its code -/
theorem calls_ev {ρ : Type} (hE : EnvTy P E) {f : FuncId} {fn : Func} {code : Code} {nt : Nat} {rs : List ResultVar} (hf : P.funcs[f]? = some fn) (hb : fn.body = some code) (hnt : fn.ntmps = nt) (hrs : fn.results.toList = rs) {evx : St → Kt ρ → Option ρ}
    {objs : List OB} (hev : ∀ (c : Cx), (∀ b, c.M0 b → objs ≠ []) → ∀ (S : St) (K : Kt ρ) (r : ρ) (μ : Nat → Value) (a : Act) (w : World) (n : Nat) (Q : Exit → Act → World → Prop), evx S K = some r → SR c S μ a w → n ≤ S.objs.length → Post c K r n (dsts code) S μ Q → code.wp P Q a w)
    {args : List PV} {K : PV → List OB → Option ρ} {r : ρ} (hk : evx { slots := args ++ List.replicate (nt - args.length) .undef, objs := objs, touched := [] } { n := fun S => retK E S rs K, x := fun _ _ => none, r := fun S => retK E S rs K } = some r)
    (w : World) (A : Nat → Prop) (μ : Nat → Value) (vals : List Value) (hO : Objs w A (obs objs) μ) (hargs : TRs w A (obs objs) μ args vals) :
    Calls P f vals.toArray w fun e w' => ∃ v res objs' μ', e = .returned v ∧ K res objs' = some r ∧ CallPost w w' A objs μ objs' μ' res v := by
  · have hc : ∃ c : Cx, c.w0 = w ∧ c.A0 = A ∧ c.M0 = own (obs objs) μ := ⟨⟨w, A, own (obs objs) μ, hO.old, hO.mine⟩, rfl, rfl, rfl⟩
    obtain ⟨c, hw0, hA0, hM0⟩ := hc
    refine calls_of_wp hf hb ?_
    generalize hS : ({ slots := args ++ List.replicate (nt - args.length) .undef, objs := objs, touched := [] } : St) = S
    have hob : S.ob = obs objs := by subst hS; rfl
    have hSo : S.objs = objs := by subst hS; rfl
    have hav : ∀ b, av c S.ob μ b → A b := fun b hb => by
      rcases hb with hb | hb
      · rw [hA0] at hb; exact hb
      · rw [hob] at hb; exact hO.mine b hb
    have hsz := hargs.len
    have hsr : SR c S μ { tmps := vals.toArray ++ Array.replicate (fn.ntmps - vals.toArray.size) undef, defers := [] } w := by
      refine ⟨rfl, ⟨?_, fun t v ht => ?_⟩, ?_, by rw [hw0]; exact Keep.refl _ w, fun b hb => .inl (by rw [hM0, ← hob]; exact hb)⟩
      · subst hS; simp [hnt, hsz]
      · subst hS
        simp only at ht
        rw [List.getElem?_append] at ht
        split at ht
        · rename_i hlt
          obtain ⟨x, hx, hv⟩ := hargs.each t v ht
          have : (vals.toArray ++ Array.replicate (fn.ntmps - vals.toArray.size) undef).getD t undef = x := by
            rw [Array.getD_eq_getD_getElem?, Array.getElem?_append_left (by simp; omega)]
            simp [hx]
          show VR w _ _ _ v ((vals.toArray ++ Array.replicate (fn.ntmps - vals.toArray.size) undef).getD t undef)
          rw [this]
          exact VR.later (Keep.refl None w) (fun b _ hb => hav b hb) (fun _ h => h.elim) (fun o _ => by rw [hob]; exact Later.refl _ _ o) hv
        · rename_i hge
          rw [List.getElem?_replicate] at ht
          split at ht
          · simp only [Option.some.injEq] at ht
            subst ht
            have : (vals.toArray ++ Array.replicate (fn.ntmps - vals.toArray.size) undef).getD t undef = undef := by
              rw [Array.getD_eq_getD_getElem?, Array.getElem?_append_right (by simp; omega), Array.getElem?_replicate]
              split <;> rfl
            show VR w _ _ _ _ ((vals.toArray ++ Array.replicate (fn.ntmps - vals.toArray.size) undef).getD t undef)
            rw [this]
            exact .mk_undef
          · cases ht
      · rw [hob]
        exact ⟨fun o => (hO.each o).later (Keep.refl None w) (fun b _ hb => hav b (by rw [hob]; exact hb)) (fun _ h => h.elim) (.inl rfl) (fun _ => rfl) (fun b h1 h2 => ⟨fun h => h.elim, hO.old b (hO.mine b ⟨o, h1, h2⟩)⟩) (fun x _ => Later.refl _ _ x), hO.apart, fun b hb => .inr hb, fun b hb => hO.old b (hav b (by rw [hob]; exact hb)), fun p hp => ⟨(hO.lay p hp).1, fun a => (hO.lay p hp).2 (hav _ (by rw [hob]; exact a))⟩⟩
    rw [hS] at hk
    have hfin : ∀ S' μ' a' w', retK E S' rs K = some r → SR c S' μ' a' w' → Ag objs.length (dsts code) S μ S' μ' → a'.defers = [] ∧ ∃ v, (results fn a'.tmps).run P w' = .ok v w' ∧
        ∃ v' res objs' μ', Ending.returned v = .returned v' ∧ K res objs' = some r ∧ CallPost w w' A objs μ objs' μ' res v' := by
      intro S' μ' a' w' h1 h2 h3
      refine ⟨h2.defers, ?_⟩
      unfold retK at h1
      have hpost : ∀ (res : PV) (v : Value), VR w' (av c S'.ob μ') S'.ob μ' res v → CallPost w w' A objs μ S'.objs μ' res v := fun res v hv => by
        refine ⟨h3.olen, ?_, ?_, ?_, fun b hb => ?_, fun i hi => ?_⟩
        · have := h2.keep; rw [hM0, hw0] at this; exact this
        · have := h2.objs; unfold av at this; rw [hA0] at this; exact this
        · unfold av at hv; rw [hA0] at hv; exact hv
        · have := h2.mine b hb; rw [hM0, hw0] at this; exact this
        · have := h3.later i hi; rw [hob] at this; exact this
      have hres : ∀ vs, retL E S' rs = some vs → ∃ xs : List Value, (fn.results.mapM (retV a'.tmps)).run P w' = .ok xs.toArray w' ∧ TRs w' (av c S'.ob μ') S'.ob μ' vs xs := fun vs hvs => by
        obtain ⟨xs, g1, g2⟩ := retL_sound hE h2 rs vs hvs
        refine ⟨xs, ?_, g2⟩
        rw [Array.mapM_eq_mapM_toList, hrs, Sem.run_map, g1]
        rfl
      rw [results_eq]
      split at h1
      · rename_i v hv
        obtain ⟨xs, g1, g2⟩ := hres _ hv
        simp only [TRs] at g2
        obtain ⟨x, rest, rfl, g3, rfl⟩ := g2
        exact ⟨x, by rw [Sem.run_bind, g1]; rfl, x, v, S'.objs, μ', rfl, h1, hpost v x g3⟩
      · rename_i vs hne hv
        obtain ⟨xs, g1, g2⟩ := hres _ hv
        have hl := g2.len
        have h1x : xs.length ≠ 1 := fun e => by
          rw [e] at hl
          match vs, hl with
          | [v], _ => exact hne v rfl
        refine ⟨.tuple xs.toArray, by rw [Sem.run_bind, g1]; simp [Result.andThen, h1x], .tuple xs.toArray, .tup vs, S'.objs, μ', rfl, h1, hpost _ _ (.of_one ?_ rfl rfl)⟩
        simp only [CR]
        exact ⟨_, rfl, by simpa using g2⟩
      · cases h1
    exact hev c (fun b hb e => by
        rw [hM0] at hb
        obtain ⟨o, h1, _⟩ := hb
        have := obs_len h1
        rw [e] at this
        exact absurd this (Nat.not_lt_zero _)) S _ r μ _ w objs.length _ hk hsr (by rw [hSo]; exact Nat.le_refl _)
      ⟨fun S' μ' a' w' h1 h2 h3 => hfin S' μ' a' w' h1 h2 h3, fun j S' μ' a' w' h1 => (by cases h1), fun S' μ' a' w' h1 h2 h3 => hfin S' μ' a' w' h1 h2 h3⟩
/-- A FUNCTION IS WHAT THE EVALUATOR MAKES OF IT. -/
theorem enters_of {f : FuncId} {fn : Func} {code : Code} (hf : P.funcs[f]? = some fn) (hname : (fn.name == "runtime.NumGoroutine") = false) (hb : fn.body = some code) : Enters P f := fun args w => by
  have h1 : (callFunc f args).run P w = .ok (.enter f args) w := by
    unfold callFunc
    have hn' : ¬ fn.name = "runtime.NumGoroutine" := by simpa using hname
    simp [hf, hn', hb]
  exact h1
theorem EnvOK.giving {objs : List OB} (hE : EnvOK P E) (hc : ∀ b, c.M0 b → objs ≠ []) : EnvC P { E with give := objs.isEmpty } c :=
  ⟨⟨hE.1, hE.2⟩, fun h b hb => hc b hb (List.isEmpty_iff.1 h)⟩
theorem fun_sound (hE : EnvOK P E) (hm : P.follows .mixedOrders = true) {H : Hints} {f : FuncId} {fn : Func} {code : Code} {nt : Nat} {rs : List ResultVar} (hf : P.funcs[f]? = some fn) (hname : (fn.name == "runtime.NumGoroutine") = false) (hb : fn.body = some code) (hnt : fn.ntmps = nt) (hrs : fn.results.toList = rs) {sem : FSem}
    (hrun : ∀ {ρ : Type} (args : List PV) (objs : List OB) (K : PV → List OB → Option ρ) (r : ρ), sem.run args objs K = some r → ∃ k, evFun E H k code nt rs args objs K = some r) : SoundF P f sem := by
  intro ρ args objs K r h
  obtain ⟨k, hk⟩ := hrun args objs K r h
  exact ⟨enters_of hf hname hb, fun w A μ vals hO hargs => calls_ev hE.1 hf hb hnt hrs (evx := fun S K => ev { E with give := objs.isEmpty } H k code 0 S K) (fun c hc S K r μ a w n Q h hs hn hp => ev_sound (hE.giving hc) hm code 0 S K r μ a w n Q h hs hn hp) hk w A μ vals hO hargs⟩
end
end Go.Vm

/- Vm, part 23: types are as they are said, by a check. Own work. -/
set_option linter.unusedVariables false
set_option linter.unusedSimpArgs false
set_option linter.unusedSectionVars false
namespace Go.Vm
variable [MonotC]
open Go.RowKit
def leafZ : Value → Value → Bool
  | .int k x, .int k' y => decide (k = k') && decide (x = y)
  | .bool a, .bool b => cond a b (!b)
  | .string s, .string t => s.data.toList.isEmpty && t.data.toList.isEmpty
  | .slice none 0 0, .slice none 0 0 => true
  | .pointer none, .pointer none => true
  | .nilFunc, .nilFunc => true
  | .map none, .map none => true
  | .nilIface, .nilIface => true
  | _, _ => false
def leafZs : List Value → List Value → Bool
  | [], [] => true
  | a :: l, b :: m => leafZ a b && leafZs l m
  | _, _ => false
theorem leafZ_eq {a b : Value} (h : leafZ a b = true) : a = b := by
  unfold leafZ at h
  split at h
  · simp only [Bool.and_eq_true, decide_eq_true_eq] at h
    rw [h.1, h.2]
  · rename_i a b; cases a <;> cases b <;> simp at h <;> rfl
  · rename_i s t
    simp only [Bool.and_eq_true, List.isEmpty_iff, Array.toList_eq_nil_iff] at h
    cases s; cases t
    simp at h
    rw [h.1, h.2]
  all_goals first | rfl | cases h
theorem leafZs_eq : ∀ {l m : List Value}, leafZs l m = true → l = m
  | [], [], _ => rfl
  | a :: l, b :: m, h => by
    simp only [leafZs, Bool.and_eq_true] at h
    rw [leafZ_eq h.1, leafZs_eq h.2]
  | [], _ :: _, h => by cases h
  | _ :: _, [], h => by cases h
def infoOK (P : Program) (t : TypeId) (n : Nat) (agg : Bool) (zs : List Value) : Bool :=
  match P.info? t with
  | some i => Nat.beq i.size n && (Nat.ble i.bytes 16384 && (match i.zero with
    | some z => match agg with
      | true => match z with
        | .agg cs => leafZs cs.toList zs
        | _ => false
      | false => match zs with
        | [x] => leafZ z x
        | _ => false
    | none => false))
  | none => false
theorem infoOK_agg {P : Program} {t : TypeId} {n : Nat} {zs : List Value} (h : infoOK P t n true zs = true) : ∃ i, P.info? t = some i ∧ i.size = n ∧ i.zero = some (.agg zs.toArray) ∧ i.bytes ≤ 16384 := by
  unfold infoOK at h
  split at h
  · rename_i i hi
    simp only [Bool.and_eq_true] at h
    obtain ⟨h1, h2, h3⟩ := h
    refine ⟨i, hi, Nat.eq_of_beq_eq_true h1, ?_, Nat.le_of_ble_eq_true h2⟩
    split at h3
    · rename_i z hz
      split at h3
      · rename_i cs
        rw [hz, ← leafZs_eq h3]
      · cases h3
    · cases h3
  · cases h
theorem infoOK_leaf {P : Program} {t : TypeId} {n : Nat} {z0 : Value} (h : infoOK P t n false [z0] = true) : ∃ i, P.info? t = some i ∧ i.size = n ∧ i.zero = some z0 ∧ i.bytes ≤ 16384 := by
  unfold infoOK at h
  split at h
  · rename_i i hi
    simp only [Bool.and_eq_true] at h
    obtain ⟨h1, h2, h3⟩ := h
    refine ⟨i, hi, Nat.eq_of_beq_eq_true h1, ?_, Nat.le_of_ble_eq_true h2⟩
    split at h3
    · rename_i z hz
      rw [hz, leafZ_eq h3]
    · cases h3
  · cases h
mutual
def chkTy (P : Program) (t : TypeId) : Ty → Bool
  | .int k => infoOK P t 1 false [.int k 0] && (match P.underlying t with | some (.int k') => decide (k' = k) | _ => false)
  | .bool => infoOK P t 1 false [.bool false] && (match P.underlying t with | some .bool => true | _ => false)
  | .str => infoOK P t 1 false [.string ⟨#[]⟩] && (match P.underlying t with | some .string => true | _ => false)
  | .slice T => infoOK P t 1 false [.slice none 0 0] && (match P.underlying t with | some (.slice e) => chkTy P e T && (Nat.blt 0 T.cells && (!Nat.beq t bytesT || Nat.beq e byteT)) | _ => false)
  | .struct fs => infoOK P t fs.cells true (zerosV fs) && (match P.underlying t with | some (.struct fields) => chkTys P fields.toList 0 fs && (Ty.deep.go fs || (!P.stoodInHeld t && (!P.eqGuardType P.depth t && fields.toList.all fun f => !(f.name == "_")))) | _ => false)
def chkTys (P : Program) (fields : List Field) (off : Nat) : Tys → Bool
  | .nil => fields.isEmpty
  | .cons t ts => match fields with
    | f :: l => Nat.beq f.offset off && (Nat.blt 0 t.cells && (chkTy P f.type t && chkTys P l (off + t.cells) ts))
    | [] => false
end
mutual
def chkTD (P : Program) (t : TypeId) : TD → Bool
  | .data T => chkTy P t T
  | .cell k => infoOK P t 1 false [nilV k] && (match P.underlying t with | some d => (match d with | .struct _ | .array _ _ => false | .interface _ => true | _ => (match k with | .iface => false | _ => true)) | none => false)
  | .agg l => infoOK P t l.cells true l.zeroV && (match P.underlying t with | some (.struct fields) => chkTDs P fields.toList 0 l | _ => false)
  | .map K V => infoOK P t 1 false [nilV .map] && (match P.underlying t with | some (.map k e) => chkTy P k K && (chkTy P e V && (!K.deep && Nat.ble K.height 100)) | _ => false)
def chkTDs (P : Program) (fields : List Field) (off : Nat) : TDs → Bool
  | .nil => fields.isEmpty
  | .cons t ts => match fields with
    | f :: l => Nat.beq f.offset off && (Nat.blt 0 t.cells && (chkTD P f.type t && chkTDs P l (off + t.cells) ts))
    | [] => false
end
mutual
theorem chkTy_ok {P : Program} : ∀ (T : Ty) (t : TypeId), chkTy P t T = true → TyOK P t T
  | .int k, t, h => by
    simp only [chkTy, Bool.and_eq_true] at h
    refine ⟨infoOK_leaf h.1, ?_⟩
    have := h.2
    split at this
    · rename_i k' hk; rw [hk, of_decide_eq_true this]
    · cases this
  | .bool, t, h => by
    simp only [chkTy, Bool.and_eq_true] at h
    refine ⟨infoOK_leaf h.1, ?_⟩
    have := h.2
    split at this
    · rename_i hk; exact hk
    · cases this
  | .str, t, h => by
    simp only [chkTy, Bool.and_eq_true] at h
    refine ⟨infoOK_leaf h.1, ?_⟩
    have := h.2
    split at this
    · rename_i hk; exact hk
    · cases this
  | .slice T, t, h => by
    simp only [chkTy, Bool.and_eq_true] at h
    simp only [TyOK]
    refine ⟨infoOK_leaf h.1, ?_⟩
    have h2 := h.2
    split at h2
    · rename_i e he
      simp only [Bool.and_eq_true] at h2
      refine ⟨e, he, chkTy_ok T e h2.1, by simpa using h2.2.1, fun ht => ?_⟩
      have h3 := h2.2.2
      subst ht
      simpa using h3
    · cases h2
  | .struct fs, t, h => by
    simp only [chkTy, Bool.and_eq_true] at h
    simp only [TyOK]
    refine ⟨infoOK_agg h.1, ?_⟩
    have h2 := h.2
    split at h2
    · rename_i fields he
      simp only [Bool.and_eq_true] at h2
      refine ⟨fields, he, chkTys_ok fs fields.toList 0 h2.1, fun hd => ?_⟩
      have h3 := h2.2
      simp only [hd, Bool.false_or, Bool.and_eq_true, Bool.not_eq_true', List.all_eq_true] at h3
      exact ⟨h3.1, h3.2.1, fun f hf => h3.2.2 f hf⟩
    · cases h2
theorem chkTys_ok {P : Program} : ∀ (T : Tys) (fields : List Field) (off : Nat), chkTys P fields off T = true → TysOK P fields off T
  | .nil, fields, off, h => by
    simp only [chkTys, List.isEmpty_iff] at h
    subst h
    simp only [TysOK]
  | .cons t ts, fields, off, h => by
    simp only [chkTys] at h
    split at h
    · rename_i f l
      simp only [Bool.and_eq_true] at h
      simp only [TysOK]
      exact ⟨Nat.eq_of_beq_eq_true h.1, by simpa using h.2.1, chkTy_ok t _ h.2.2.1, chkTys_ok ts l _ h.2.2.2⟩
    · cases h
end
mutual
theorem chkTD_ok {P : Program} : ∀ (T : TD) (t : TypeId), chkTD P t T = true → TDOK P t T
  | .data T, t, h => by simp only [chkTD] at h; simp only [TDOK]; exact chkTy_ok T t h
  | .cell k, t, h => by
    simp only [chkTD, Bool.and_eq_true] at h
    simp only [TDOK]
    refine ⟨infoOK_leaf h.1, ?_⟩
    have h2 := h.2
    split at h2
    · rename_i d hd
      exact ⟨d, hd, by split at h2 <;> first | (simp_all; done) | (cases k <;> simp_all)⟩
    · cases h2
  | .agg fs, t, h => by
    simp only [chkTD, Bool.and_eq_true] at h
    simp only [TDOK]
    refine ⟨infoOK_agg h.1, ?_⟩
    have h2 := h.2
    split at h2
    · rename_i fields he
      exact ⟨fields, he, chkTDs_ok fs fields.toList 0 h2⟩
    · cases h2
  | .map K V, t, h => by
    simp only [chkTD, Bool.and_eq_true] at h
    simp only [TDOK]
    refine ⟨infoOK_leaf h.1, ?_⟩
    have h2 := h.2
    split at h2
    · rename_i k e hd
      simp only [Bool.and_eq_true, Bool.not_eq_true'] at h2
      exact ⟨k, e, hd, chkTy_ok K k h2.1, chkTy_ok V e h2.2.1, h2.2.2.1, Nat.le_of_ble_eq_true h2.2.2.2⟩
    · cases h2
theorem chkTDs_ok {P : Program} : ∀ (T : TDs) (fields : List Field) (off : Nat), chkTDs P fields off T = true → TDsOK P fields off T
  | .nil, fields, off, h => by
    simp only [chkTDs, List.isEmpty_iff] at h
    subst h
    simp only [TDsOK]
  | .cons t ts, fields, off, h => by
    simp only [chkTDs] at h
    split at h
    · rename_i f l
      simp only [Bool.and_eq_true] at h
      simp only [TDsOK]
      exact ⟨Nat.eq_of_beq_eq_true h.1, by simpa using h.2.1, chkTD_ok t _ h.2.2.1, chkTDs_ok ts l _ h.2.2.2⟩
    · cases h
end
/-- types by number -/
def types : List (Nat × TD) → Nat → Option TD
  | [], _ => none
  | p :: l, t => cond (Nat.beq p.1 t) (some p.2) (types l t)
def chkTypes (P : Program) : List (Nat × TD) → Bool
  | [] => true
  | p :: l => chkTD P p.1 p.2 && chkTypes P l
theorem types_ok {P : Program} : ∀ (l : List (Nat × TD)), chkTypes P l = true → ∀ t d, types l t = some d → TDOK P t d
  | [], _, t, d, h => by cases h
  | p :: l, hc, t, d, h => by
    simp only [chkTypes, Bool.and_eq_true] at hc
    simp only [types] at h
    by_cases e : p.1 = t
    · subst e
      simp only [Nat.beq_refl, cond_true, Option.some.injEq] at h
      subst h
      exact chkTD_ok _ _ hc.1
    · have : Nat.beq p.1 t = false := by rw [← Bool.not_eq_true]; simpa using e
      rw [this] at h
      exact types_ok l hc.2 t d h
/-- an environment from tables -/
def mkEnv (ts : List (Nat × TD)) (fs : List (Nat × FSem)) : Env := { td := types ts, call := calls fs }
def fvars : List (Nat × Nat) → Nat → Option Nat
  | [], _ => none
  | p :: l, t => cond (Nat.beq p.1 t) (some p.2) (fvars l t)
/-- .. with variables that hold functions -/
def mkEnvF (ts : List (Nat × TD)) (fs : List (Nat × FSem)) (vs : List (Nat × Nat)) : Env := { td := types ts, call := calls fs, fv := fvars vs }
theorem mkEnv_ok {P : Program} {ts : List (Nat × TD)} {fs : List (Nat × FSem)} (h : chkTypes P ts = true) (hf : ∀ p ∈ fs, SoundF P p.1 p.2) : EnvOK P (mkEnv ts fs) :=
  ⟨types_ok ts h, calls_sound fs hf⟩
theorem mkEnvF_ok {P : Program} {ts : List (Nat × TD)} {fs : List (Nat × FSem)} {vs : List (Nat × Nat)} (h : chkTypes P ts = true) (hf : ∀ p ∈ fs, SoundF P p.1 p.2) : EnvOK P (mkEnvF ts fs vs) :=
  ⟨types_ok ts h, calls_sound fs hf⟩
end Go.Vm

/- Vm, part 24: what follows may be taken out of an evaluation. Own work. -/
set_option linter.unusedVariables false
set_option linter.unusedSimpArgs false
namespace Go.Vm
section
variable {E : Env} {S : St} {o : Oper} {al : Nat} {ρ τ : Type} {f : ρ → Option τ}
theorem cond_bind (b : Bool) (x y : Option ρ) : (cond b x y).bind f = cond b (x.bind f) (y.bind f) := by cases b <;> rfl
theorem optK_bind {α : Type} (x : Option α) (K : α → Option ρ) : (optK x K).bind f = optK x (fun y => (K y).bind f) := by cases x <;> rfl
theorem evP_nat (K : PV → Option OB → Option ρ) : (evP E o S al K).bind f = evP E o S al (fun v b => (K v b).bind f) := by
  rw [evP_both, evP_both (K := fun v b => (K v b).bind f), optK_bind]
theorem addK_nat (d : Option Tmp) (v : PV) (b : Option OB) (K : St → Option ρ) : (addK S al d v b K).bind f = addK S al d v b (fun S => (K S).bind f) := by
  unfold addK
  cases b with
  | none => rfl
  | some b => simp only [cond_bind]; rfl
theorem prep_nat : ∀ (ms : List Mode) (vs : List PV) (S : St) (K : St → List PV → Option ρ), (prepArgs S ms vs K).bind f = prepArgs S ms vs (fun S l => (K S l).bind f)
  | [], vs, S, K => rfl
  | m :: ms, [], S, K => rfl
  | m :: ms, v :: vs, S, K => by
    simp only [prepArgs]
    split
    · rw [cond_bind, prep_nat ms vs]; rfl
    · rw [prep_nat ms vs]
theorem run_nat (sem : FSem) (args : List PV) (objs : List OB) (K : PV → List OB → Option ρ) : (sem.run args objs K).bind f = sem.run args objs (fun v l => (K v l).bind f) := by
  rw [sem.param, sem.param (K := fun v l => (K v l).bind f)]
  cases sem.run args objs (fun v l => some (v, l)) <;> rfl
theorem evCall_nat (g : Nat) (args : List PV) (K : St → PV → Option ρ) : (evCall E g args S K).bind f = evCall E g args S (fun S v => (K S v).bind f) := by
  unfold evCall
  rw [prep_nat]
  congr 1
  funext S1 l
  rw [optK_bind]
  congr 1
  funext as
  simp only [cond_bind, run_nat]
  rfl
theorem evCallG_nat (g : Nat) (args : List PV) (K : St → PV → Option ρ) : (evCallG E g args S K).bind f = evCallG E g args S (fun S v => (K S v).bind f) := by
  unfold evCallG
  rw [cond_bind, optK_bind, evCall_nat]
  congr 2
  funext as
  exact evCall_nat _ _ _
theorem bound_nat (x : Option Operand) (d : Int) (K : Int → Option ρ) : (evP.boundK S x d K).bind f = evP.boundK S x d (fun n => (K n).bind f) := by
  unfold evP.boundK
  repeat' split
  all_goals first | rfl | (simp_all; done)
theorem evF_nat (K : St → Option ρ) : (evF E o S al K).bind f = evF E o S al (fun S => (K S).bind f) := by
  have hq : (evP E o S al fun v b => addK S al o.dst v b K).bind f = evP E o S al fun v b => addK S al o.dst v b (fun S => (K S).bind f) := by
    rw [evP_nat]; congr 1; funext v b; exact addK_nat _ _ _ _
  cases hop : o.op
  case store t x y =>
    simp only [evF, hop]
    repeat' split
    all_goals first | rfl | (rw [cond_bind]; rfl) | (rw [cond_bind, optK_bind]; simp only [cond_bind]; rfl)
  case slice t x lo hi mx =>
    simp only [evF, hop]
    split
    · cases E.view with
      | true => simp only [cond_true]; exact hq
      | false =>
        simp only [cond_false]
        split
        · rw [bound_nat]; congr 1; funext l; rw [bound_nat]; congr 1; funext h; rw [cond_bind]; rfl
        · rfl
    · exact hq
  case call c =>
    cases hc : c.callee with
    | value x =>
      simp only [evF, hop, hc]
      split
      · exact evCallG_nat _ _ _
      · rfl
    | invoke r m => simp only [evF, hop, hc]; rfl
    | builtin b =>
      cases b
      case append =>
        simp only [evF, hop, hc]
        split
        · rename_i s x t t2 ts _ _
          split
          · cases isZeros (E.td t2)
            · simp only [cond_false]
              cases isStrD (E.td t2)
              · simp only [cond_false]
                split
                · rw [optK_bind]
                  congr 1
                  funext ys
                  split
                  · rw [cond_bind, addK_nat]; rfl
                  · split
                    · rw [optK_bind]; congr 1; funext xs; rw [cond_bind]; rfl
                    · rfl
                  · rfl
                · rfl
              · simp only [cond_true]
                split
                · rw [cond_bind]
                  congr 1
                  split
                  · rw [cond_bind, addK_nat]; rfl
                  · split
                    · rw [cond_bind]; rfl
                    · rfl
                  · rfl
                · rfl
            · simp only [cond_true]
              split
              · rw [cond_bind, addK_nat]; rfl
              · rfl
          · rfl
        · rfl
      case clear =>
        simp only [evF, hop, hc]
        repeat' split
        all_goals first | rfl | (simp only [optK_bind, cond_bind]; done) | (simp only [optK_bind, cond_bind]; rfl)
      case delete =>
        simp only [evF, hop, hc]
        repeat' split
        all_goals first | rfl | (simp only [optK_bind, cond_bind]; rfl)
      case copy =>
        simp only [evF, hop, hc]
        generalize c.args.toList.map (opd S) = as
        generalize c.argTypes.toList = ts
        rcases as with _ | ⟨s, _ | ⟨x, _ | _⟩⟩ <;> try rfl
        rcases ts with _ | ⟨t, ts⟩
        · rfl
        simp only
        cases E.elem t with
        | none => rfl
        | some T =>
          simp only
          cases asData S T x with
          | none => rfl
          | some ys =>
            simp only [optK]
            cases s with
            | sub ob l h =>
              simp only
              cases S.ob ob with
              | row U zs =>
                simp only
                cases castL U T zs with
                | none => rfl
                | some xs =>
                  simp only
                  cases Nat.ble (l.toNat + (h - l).toNat) xs.length <;> rfl
              | _ => rfl
            | row ob =>
              simp only
              cases S.ob ob with
              | row U zs =>
                simp only
                cases castL U T zs <;> rfl
              | _ => rfl
            | _ => rfl
      all_goals (simp only [evF, hop, hc]; exact hq)
  case mapUpdate =>
    simp only [evF, hop]
    repeat' split
    all_goals first | rfl | (simp only [optK_bind, cond_bind]; rfl)
  case insert =>
    simp only [evF, hop]
    repeat' split
    all_goals first | rfl | (simp only [optK_bind, cond_bind]; rfl)
  case mapEntry =>
    simp only [evF, hop]
    repeat' split
    all_goals first | rfl | (simp only [optK_bind, cond_bind]; rfl)
  case entryStore =>
    simp only [evF, hop]
    repeat' split
    all_goals first | rfl | (simp only [optK_bind, cond_bind]; rfl)
  all_goals (simp only [evF, hop]; exact hq)
theorem wantK_nat (all : List Oper) (yes no : St → Option ρ) : (wantK all o S yes no).bind f = wantK all o S (fun S => (yes S).bind f) (fun S => (no S).bind f) := by
  unfold wantK
  split
  · rfl
  · rfl
  · split
    · simp only [cond_bind]
    · rfl
    · rfl
theorem evOps_nat (all : List Oper) : ∀ (l : List Oper) (S : St) (K : St → Option ρ), (evOps E all l S K).bind f = evOps E all l S (fun S => (K S).bind f)
  | [], S, K => rfl
  | o :: l, S, K => by
    simp only [evOps]
    rw [wantK_nat]
    congr 1
    · funext S1; rw [evF_nat]; congr 1; funext S2; exact evOps_nat all l S2 K
    · funext S1; exact evOps_nat all l _ K
theorem evQuiet_nat (K : PV → Option OB → Option ρ) : (evQuiet E o S al K).bind f = evQuiet E o S al (fun v b => (K v b).bind f) := by
  unfold evQuiet
  split
  · split
    · rw [optK_bind]
      congr 1
      funext as
      rw [cond_bind, run_nat]
      congr 2
      funext v l
      rw [cond_bind]
      congr 1
      split
      · rw [cond_bind]; rfl
      · rw [cond_bind]; rfl
      · rfl
    · exact evP_nat K
  · exact evP_nat K
theorem bigK_nat {M : St} (K : PV → List OB → Option ρ) : (bigK E o M K).bind f = bigK E o M (fun v l => (K v l).bind f) := by
  unfold bigK
  split
  · split
    · split
      · rw [cond_bind, run_nat]; rfl
      · rfl
    · rfl
  · rfl
theorem evDraw_nat (all : List Oper) (bf : List (List Nat)) (base : Nat) : ∀ (l : List Oper) (j : Nat) (S : St) (K : St → Option ρ), (evDraw E all bf base j l S K).bind f = evDraw E all bf base j l S (fun S => (K S).bind f)
  | [], j, S, K => rfl
  | o :: l, j, S, K => by
    simp only [evDraw]
    rw [wantK_nat]
    congr 1
    · funext S1
      rw [cond_bind, evQuiet_nat, cond_bind, bigK_nat, cond_bind, evF_nat]
      congr 1
      · congr 1; funext v b; rw [cond_bind, evDraw_nat all bf base l]; rfl
      · congr 1
        · congr 1; funext v b; rw [cond_bind, evDraw_nat all bf base l]; rfl
        · congr 1; congr 1; funext S2; rw [cond_bind, evDraw_nat all bf base l]; rfl
    · funext S1
      rw [cond_bind, cond_bind, evDraw_nat all bf base l]; rfl
theorem evRegion_nat (ops : List Oper) (draw : Bool) (K : St → Option ρ) : (evRegion E ops draw S K).bind f = evRegion E ops draw S (fun S => (K S).bind f) := by
  unfold evRegion
  rw [cond_bind, cond_bind, evDraw_nat, evOps_nat]
  rfl
mutual
theorem take_nat (f : ρ → Option τ) : ∀ (s : Sh) (v : PV) (K : s.den → List (Option Nat) → Option ρ), (Sh.take S s v K).bind f = Sh.take S s v (fun y l => (K y l).bind f)
  | .int k, v, K => by
    simp only [Sh.take]
    split
    · rw [cond_bind]; rfl
    · rfl
  | .bool, v, K => by
    simp only [Sh.take]
    split <;> rfl
  | .str, v, K => by
    simp only [Sh.take]
    split <;> rfl
  | .sl T, v, K => by
    simp only [Sh.take]
    split
    · rw [optK_bind]
    · rfl
    · rfl
  | .row T, v, K => by
    simp only [Sh.take]
    split
    · split
      · rw [optK_bind]
      · rfl
    · rfl
    · rfl
  | .box d s, v, K => by
    simp only [Sh.take]
    split
    · split
      · rw [cond_bind, take_nat f s]; rfl
      · rfl
    · rfl
  | .agg l, v, K => by
    simp only [Sh.take]
    split
    · exact takes_nat f l _ K
    · rfl
  | .map T U, v, K => by
    simp only [Sh.take]
    split
    · split
      · rw [optK_bind]
      · rfl
    · rfl
  | .bytes, v, K => by
    simp only [Sh.take]
    split
    · split <;> rfl
    · rfl
    · rfl
theorem takes_nat (f : ρ → Option τ) : ∀ (s : Shs) (v : List PV) (K : s.den → List (Option Nat) → Option ρ), (Shs.take S s v K).bind f = Shs.take S s v (fun y l => (K y l).bind f)
  | .nil, v, K => by
    simp only [Shs.take]
    split <;> rfl
  | .cons s t, v, K => by
    simp only [Shs.take]
    split
    · rw [take_nat f s]; congr 1; funext y a; exact takes_nat f t _ _
    · rfl
  | .skip t, v, K => by
    simp only [Shs.take]
    split
    · rename_i v vs
      rw [cond_bind]
      exact congrArg (fun z => cond v.isOne z none) (takes_nat f t vs K)
    · rfl
end
theorem obTake_nat (s : Sh) (b : OB) (K : s.den → List (Option Nat) → Option ρ) : (obTake S s b K).bind f = obTake S s b (fun y l => (K y l).bind f) := by
  cases s with
  | row T => simp only [obTake]; split; rw [optK_bind]; rfl
  | box d s =>
    simp only [obTake]
    split
    · rw [cond_bind]
      congr 1
      exact take_nat f s _ _
    · rfl
  | map T U => simp only [obTake]; split; rw [optK_bind]; rfl
  | _ => rfl
theorem objsTake_nat : ∀ (l : List (Nat × Sh)) (K : (shsOf l).den → List (Option Nat) → Option ρ), (objsTake S l K).bind f = objsTake S l (fun y l => (K y l).bind f)
  | [], K => rfl
  | p :: r, K => by simp only [objsTake]; rw [obTake_nat]; congr 1; funext y a; exact objsTake_nat r _
theorem slotsTake_nat : ∀ (l : List (Nat × Sh)) (K : (shsOf l).den → List (Option Nat) → Option ρ), (slotsTake S l K).bind f = slotsTake S l (fun y l => (K y l).bind f)
  | [], K => rfl
  | p :: r, K => by simp only [slotsTake]; rw [take_nat f]; congr 1; funext y a; exact slotsTake_nat r _
theorem settle_nat : ∀ (l : List (Nat × Sh)) (S : St) (K : St → Option ρ), (settle l S K).bind f = settle l S (fun S => (K S).bind f)
  | [], S, K => rfl
  | p :: l, S, K => by
    simp only [settle]
    split
    · split
      · split
        · rw [cond_bind, settle_nat l]; rfl
        · rfl
      · exact settle_nat l S K
    · exact settle_nat l S K
theorem sshTake_nat (s : SSh) (n0 : Nat) (K : s.den → Option ρ) : (s.take n0 S K).bind f = s.take n0 S (fun y => (K y).bind f) := by
  unfold SSh.take
  rw [settle_nat]
  congr 1
  funext S
  unfold SSh.take0
  rw [objsTake_nat]
  congr 1; funext z b
  rw [slotsTake_nat]
  congr 1; funext y a
  rw [cond_bind]; rfl
def stepF {σ α β : Type} (F : α → Option β) : σ ⊕ α → Option (σ ⊕ β)
  | .inl s => some (.inl s)
  | .inr t => (F t).map .inr
theorem iter_nat {σ α β : Type} (F : α → Option β) : ∀ (k : Nat) (g : σ → Option (σ ⊕ α)) (s : σ), (iter k g s).bind F = iter k (fun s => (g s).bind (stepF F)) s
  | 0, g, s => rfl
  | k + 1, g, s => by
    simp only [iter]
    cases g s with
    | none => rfl
    | some r =>
      cases r with
      | inl s' => simp only [Option.bind_some]; exact iter_nat F k g s'
      | inr t => simp only [Option.bind_some, stepF]; cases F t <;> rfl
end
def Kt.bind {σ τ : Type} (K : Kt σ) (f : σ → Option τ) : Kt τ := ⟨fun S => (K.n S).bind f, fun j S => (K.x j S).bind f, fun S => (K.r S).bind f⟩
theorem Kt.ext {σ : Type} {K K' : Kt σ} (h1 : ∀ S, K.n S = K'.n S) (h2 : ∀ j S, K.x j S = K'.x j S) (h3 : ∀ S, K.r S = K'.r S) : K = K' := by
  cases K; cases K'
  simp only [Kt.mk.injEq]
  exact ⟨funext h1, funext fun j => funext (h2 j), funext h3⟩
theorem meet_nat {σ τ : Type} (f : σ → Option τ) (h : Option SSh) (ds : List Nat) (S : St) (K : Kt σ) (go : {τ : Type} → St → Kt τ → Option τ)
    (hgo : ∀ {α β : Type} (F : α → Option β) (S' : St) (K : Kt α), S'.slots = S.slots → (go S' K).bind F = go S' (K.bind F)) : (meetK h ds S K go).bind f = meetK h ds S (K.bind f) go := by
  unfold meetK
  cases h with
  | none => exact hgo f S K rfl
  | some s =>
    simp only
    rw [cond_bind]
    congr 1
    let F : σ ⊕ s.den → Option (τ ⊕ s.den) := fun r => match r with | .inl z => (f z).map .inl | .inr y => some (.inr y)
    have hK : (⟨fun S' => s.take S.objs.length S' fun y => some (.inr y), fun j S' => ((K.bind f).x j (S'.touch (S'.touched ++ S.touched))).map .inl, fun S' => ((K.bind f).r (S'.touch (S'.touched ++ S.touched))).map .inl⟩ : Kt (τ ⊕ s.den)) =
        (⟨fun S' => s.take S.objs.length S' fun y => some (.inr y), fun j S' => (K.x j (S'.touch (S'.touched ++ S.touched))).map .inl, fun S' => (K.r (S'.touch (S'.touched ++ S.touched))).map .inl⟩ : Kt (σ ⊕ s.den)).bind F := by
      refine Kt.ext (fun S' => ?_) (fun j S' => ?_) (fun S' => ?_)
      · exact (sshTake_nat (f := F) (S := S') s S.objs.length (fun y => some (.inr y))).symm
      · simp only [Kt.bind]; cases K.x j (S'.touch (S'.touched ++ S.touched)) <;> rfl
      · simp only [Kt.bind]; cases K.r (S'.touch (S'.touched ++ S.touched)) <;> rfl
    rw [hK, ← hgo F (S.touch []) _ rfl]
    cases go (S.touch []) _ with
    | none => rfl
    | some r =>
      cases r with
      | inl z => simp only [Option.bind_some, F]; cases f z <;> rfl
      | inr y => simp only [Option.bind_some, F]; rfl
theorem ev_nat {E : Env} {H : Hints} {k : Nat} : ∀ (code : Code) (i : Nat) {σ τ : Type} (f : σ → Option τ) (S : St) (K : Kt σ), (ev E H k code i S K).bind f = ev E H k code i S (K.bind f)
  | .skip, i, σ, τ, f, S, K => rfl
  | .ret, i, σ, τ, f, S, K => rfl
  | .exit id, i, σ, τ, f, S, K => rfl
  | .region id ops draw, i, σ, τ, f, S, K => by
    simp only [ev]
    exact meet_nat f _ _ S K _ (fun F S' K _ => evRegion_nat _ _ _)
  | .seq a b, i, σ, τ, f, S, K => by
    simp only [ev]
    rw [ev_nat a]
    congr 1
    refine Kt.ext (fun S' => ?_) (fun j S' => rfl) (fun S' => rfl)
    exact ev_nat b i f S' K
  | .cond c a b, i, σ, τ, f, S, K => by
    simp only [ev]
    split
    · split
      · refine meet_nat f _ _ S K _ (fun F S' K _ => ?_)
        rw [cond_bind, ev_nat a, ev_nat b]
      · rfl
    · split
      · rw [cond_bind, ev_nat a, ev_nat b]
      · rfl
    · rfl
  | .block id b, i, σ, τ, f, S, K => by
    simp only [ev]
    refine meet_nat f _ _ S K _ (fun F S' K _ => ?_)
    rw [ev_nat b]
    congr 1
    refine Kt.ext (fun S' => rfl) (fun j S' => ?_) (fun S' => rfl)
    simp only [Kt.bind, cond_bind]
  | .loop b, i, σ, τ, f, S, K => by
    simp only [ev]
    split
    · have hu : ∀ (m : Nat) (S : St), (unroll m (fun S n => ev E H k b i S { n := n, x := K.x, r := K.r }) S).bind f = unroll m (fun S n => ev E H k b i S { n := n, x := (K.bind f).x, r := (K.bind f).r }) S := by
        intro m
        induction m with
        | zero => intro S; rfl
        | succ m ih =>
          intro S
          simp only [unroll]
          rw [ev_nat b]
          congr 1
          refine Kt.ext (fun S' => ?_) (fun j S' => rfl) (fun S' => rfl)
          exact ih S'
      exact hu k S
    · rename_i hd ex out hH
      split
      · split
        · split
          · rw [cond_bind, sshTake_nat]
            congr 1
            congr 1
            funext y0
            rw [Option.bind_assoc]
            rfl
          · rfl
        · rfl
      rw [cond_bind, sshTake_nat]
      congr 1
      congr 1
      funext y0
      let F : σ ⊕ out.den → Option (τ ⊕ out.den) := fun r => match r with | .inl z => (f z).map .inl | .inr z => some (.inr z)
      have hbody : (fun y => ev E H k b i (σ := hd.den ⊕ (τ ⊕ out.den)) (hd.lay S (dsts b) y)
              { n := fun S' => hd.take S.objs.length S' fun y => some (.inl y)
                x := fun j S' => cond (Nat.beq j ex) (out.take S.objs.length S' fun z => some (.inr (.inr z))) none
                r := fun S' => ((K.bind f).r (S'.touch (S'.touched ++ S.touched))).map fun z => .inr (.inl z) }) =
          (fun y => (ev E H k b i (σ := hd.den ⊕ (σ ⊕ out.den)) (hd.lay S (dsts b) y)
              { n := fun S' => hd.take S.objs.length S' fun y => some (.inl y)
                x := fun j S' => cond (Nat.beq j ex) (out.take S.objs.length S' fun z => some (.inr (.inr z))) none
                r := fun S' => (K.r (S'.touch (S'.touched ++ S.touched))).map fun z => .inr (.inl z) }).bind (stepF F)) := by
        funext y
        rw [ev_nat b]
        congr 1
        refine Kt.ext (fun S' => ?_) (fun j S' => ?_) (fun S' => ?_)
        · simp only [Kt.bind]; rw [sshTake_nat]; rfl
        · simp only [Kt.bind]; rw [cond_bind, sshTake_nat]; rfl
        · simp only [Kt.bind]
          cases K.r (S'.touch (S'.touched ++ S.touched)) with
          | none => rfl
          | some z => simp only [Option.bind_some, Option.map_some, F, stepF]; cases f z <;> rfl
      rw [hbody, ← iter_nat F]
      cases iter k _ y0 with
      | none => rfl
      | some r =>
        cases r with
        | inl z => simp only [Option.bind_some, F]; cases f z <;> rfl
        | inr z => simp only [Option.bind_some, F]; rfl
  | .rangeFunc _ _ _ _, i, σ, τ, f, S, K => rfl
  | .scope _, i, σ, τ, f, S, K => rfl
  | .refuse _, i, σ, τ, f, S, K => rfl
  | .label _, i, σ, τ, f, S, K => rfl
  | .goto _, i, σ, τ, f, S, K => rfl
end Go.Vm
