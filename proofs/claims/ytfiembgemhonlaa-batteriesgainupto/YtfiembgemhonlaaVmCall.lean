/- Vm, part 14: calls. Own work. -/
import Derived.Test.YtfiembgemhonlaaVmEvG
set_option linter.unusedVariables false
set_option linter.unusedSimpArgs false
namespace Go.Vm
open Go.RowKit

def obs (l : List OB) : Nat → OB := fun o => l.getD o .dead
/-- object o there is object o' here -/
def Moved (ob : Nat → OB) (μ : Nat → Value) (ob' : Nat → OB) (μ' : Nat → Value) (o o' : Nat) : Prop :=
  match ob' o' with
  | .dead => True
  | .box d _ => (∃ v, ob o = .box d v) ∧ μ' o' = μ o
  | .row T _ => (∃ xs, ob o = .row T xs) ∧ μ' o' = μ o
section
variable {w : World} {A A' : Nat → Prop} {ob ob' : Nat → OB} {μ μ' : Nat → Value} (f : Nat → Nat)
mutual
theorem CR.ren : ∀ (v : PV) (hl : ∀ o ∈ v.oids, Moved ob μ ob' μ' o (f o)) (cs : List Value), CR w A ob μ v cs → CR w A ob' μ' (v.ren f) cs
  | .any, _, _, h => by simpa only [CR, PV.ren] using h
  | .undef, _, _, h => by simpa only [CR, PV.ren] using h
  | .int _ _, _, _, h => by simpa only [CR, PV.ren] using h
  | .bool _, _, _, h => by simpa only [CR, PV.ren] using h
  | .str _, _, _, h => by simpa only [CR, PV.ren] using h
  | .sl T xs, _, cs, h => by simpa only [CR, PV.ren] using h
  | .nil, _, _, h => by simpa only [CR, PV.ren] using h
  | .nilc _, _, _, h => by simpa only [CR, PV.ren] using h
  | .row o, hl, cs, h => by
    simp only [CR, PV.ren] at h ⊢
    obtain ⟨v, e, ha, h⟩ := h
    refine ⟨v, e, ha, ?_⟩
    have := hl o (by simp [PV.oids])
    unfold Moved at this
    cases hb : ob' (f o) <;> simp only [hb] at this ⊢
    obtain ⟨⟨xs, hx⟩, hm⟩ := this
    simp only [hx] at h
    rw [hm]; exact h
  | .agg l, hl, cs, h => by simp only [CR, PV.ren] at h ⊢; exact CRs.ren l (fun o ho => hl o (by simpa [PV.oids] using ho)) cs h
  | .tup l, hl, cs, h => by
    simp only [CR, PV.ren] at h ⊢
    obtain ⟨vs, e, h⟩ := h
    exact ⟨vs, e, TRs.ren l (fun o ho => hl o (by simpa [PV.oids] using ho)) _ h⟩
  | .ptr o p, hl, cs, h => by
    simp only [CR, PV.ren] at h ⊢
    obtain ⟨v, e, ha, h⟩ := h
    refine ⟨v, e, ha, ?_⟩
    have := hl o (by simp [PV.oids])
    unfold Moved at this
    cases hb : ob' (f o) <;> simp only [hb] at this ⊢
    obtain ⟨⟨xs, hx⟩, hm⟩ := this
    simp only [hx] at h
    rw [hm]; exact h
  | .el T x, _, cs, h => by simpa only [CR, PV.ren] using h
  | .elo o i p, hl, cs, h => by
    simp only [CR, PV.ren] at h ⊢
    obtain ⟨v, e, ha, h⟩ := h
    refine ⟨v, e, ha, ?_⟩
    have := hl o (by simp [PV.oids])
    unfold Moved at this
    cases hb : ob' (f o) <;> simp only [hb] at this ⊢
    obtain ⟨⟨xs, hx⟩, hm⟩ := this
    simp only [hx] at h
    rw [hm]; exact h
  | .func g l, hl, cs, h => by
    simp only [CR, PV.ren] at h ⊢
    obtain ⟨vs, e, h⟩ := h
    exact ⟨vs, e, TRs.ren l (fun o ho => hl o (by simpa [PV.oids] using ho)) _ h⟩
theorem CRs.ren : ∀ (l : List PV) (hl : ∀ o ∈ PV.oidsL l, Moved ob μ ob' μ' o (f o)) (cs : List Value), CRs w A ob μ l cs → CRs w A ob' μ' (PV.renL f l) cs
  | [], _, _, h => by simpa only [CRs, PV.renL] using h
  | v :: l, hl, cs, h => by
    simp only [CRs, PV.renL] at h ⊢
    obtain ⟨c1, c2, e, h1, h2⟩ := h
    exact ⟨c1, c2, e, CR.ren v (fun o ho => hl o (by simp [PV.oidsL, ho])) c1 h1, CRs.ren l (fun o ho => hl o (by simp [PV.oidsL, ho])) c2 h2⟩
theorem TRs.ren : ∀ (l : List PV) (hl : ∀ o ∈ PV.oidsL l, Moved ob μ ob' μ' o (f o)) (vs : List Value), TRs w A ob μ l vs → TRs w A ob' μ' (PV.renL f l) vs
  | [], _, _, h => by simpa only [TRs, PV.renL] using h
  | v :: l, hl, vs, h => by
    simp only [TRs, PV.renL] at h ⊢
    obtain ⟨x, r, e, h1, h2⟩ := h
    refine ⟨x, r, e, ?_, TRs.ren l (fun o ho => hl o (by simp [PV.oidsL, ho])) r h2⟩
    have hag : (v.ren f).isAgg = v.isAgg := by cases v <;> simp [PV.ren, PV.isAgg]
    have han : (v.ren f).isAny = v.isAny := by cases v <;> simp [PV.ren, PV.isAny]
    rw [hag, han]
    exact h1.imp id (fun h => ⟨CR.ren v (fun o ho => hl o (by simp [PV.oidsL, ho])) _ h.1, h.2⟩)
end
theorem ren_isAgg (v : PV) : (v.ren f).isAgg = v.isAgg := by cases v <;> simp [PV.ren, PV.isAgg]
theorem ren_isAny (v : PV) : (v.ren f).isAny = v.isAny := by cases v <;> simp [PV.ren, PV.isAny]
theorem VR.ren {v : PV} (hl : ∀ o ∈ v.oids, Moved ob μ ob' μ' o (f o)) {x : Value} (h : VR w A ob μ v x) : VR w A ob' μ' (v.ren f) x := by
  unfold VR
  rw [ren_isAgg, ren_isAny]
  exact h.imp id (fun h => ⟨CR.ren f v hl _ h.1, h.2⟩)
mutual
theorem Ty.fits_ren : ∀ (T : Ty) (v : PV), T.fits v = true → T.fits (v.ren f) = true
  | .int _, v, h => by simp only [Ty.fits] at h ⊢; rwa [ren_isAgg]
  | .bool, v, h => by simp only [Ty.fits] at h ⊢; rwa [ren_isAgg]
  | .str, v, h => by simp only [Ty.fits] at h ⊢; rwa [ren_isAgg]
  | .slice _, v, h => by simp only [Ty.fits] at h ⊢; rwa [ren_isAgg]
  | .struct fs, .agg l, h => by simp only [Ty.fits, PV.ren] at h ⊢; exact Tys.fits_ren fs l h
theorem Tys.fits_ren : ∀ (T : Tys) (l : List PV), T.fits l = true → T.fits (PV.renL f l) = true
  | .nil, [], h => rfl
  | .cons t ts, v :: l, h => by
    simp only [Tys.fits, PV.renL, Bool.and_eq_true] at h ⊢
    exact ⟨Ty.fits_ren t v h.1, Tys.fits_ren ts l h.2⟩
end
mutual
theorem TD.fits_ren : ∀ (T : TD) (v : PV), T.fits v = true → T.fits (v.ren f) = true
  | .data T, v, h => by simp only [TD.fits] at h ⊢; exact Ty.fits_ren f T v h
  | .cell _, v, h => by simp only [TD.fits] at h ⊢; rwa [ren_isAgg]
  | .agg fs, .agg l, h => by simp only [TD.fits, PV.ren] at h ⊢; exact TDs.fits_ren fs l h
theorem TDs.fits_ren : ∀ (T : TDs) (l : List PV), T.fits l = true → T.fits (PV.renL f l) = true
  | .nil, [], h => rfl
  | .cons t ts, v :: l, h => by
    simp only [TDs.fits, PV.renL, Bool.and_eq_true] at h ⊢
    exact ⟨TD.fits_ren t v h.1, TDs.fits_ren ts l h.2⟩
end
/-- an object, renamed -/
theorem OR.ren {o o' : Nat} (h : OR w A ob μ o) (hb : ob' o' = (ob o).ren f) (hm : μ' o' = μ o) (hl : ∀ x ∈ (ob o).oids, Moved ob μ ob' μ' x (f x)) : OR w A ob' μ' o' := by
  unfold OR at h ⊢
  rw [hb, hm]
  cases ho : ob o with
  | dead => trivial
  | box d v =>
    simp only [ho] at h
    simp only [OB.ren]
    obtain ⟨b, cs, t, e, hh, hf, hc⟩ := h
    exact ⟨b, cs, t, e, hh, TD.fits_ren f d v hf, CR.ren f v (fun x hx => hl x (by rw [ho]; exact hx)) _ hc⟩
  | row T xs =>
    simp only [ho] at h
    simpa only [OB.ren] using h
theorem alive_ren (b : OB) : (b.ren f).alive = b.alive := by cases b <;> rfl
/-! ### Values that lead to no data -/
mutual
theorem DR.flat : ∀ (T : Ty) (x : T.den) (cs : List Value), T.deep = false → DR w A T x cs → DR w A' T x cs
  | .int _, _, _, _, h => by simpa only [DR] using h
  | .bool, _, _, _, h => by simpa only [DR] using h
  | .str, _, _, _, h => by simpa only [DR] using h
  | .slice _, _, _, hd, _ => by simp [Ty.deep] at hd
  | .struct fs, x, cs, hd, h => by simp only [DR] at h ⊢; exact DRs.flat fs x cs (by simpa only [Ty.deep] using hd) h
theorem DRs.flat : ∀ (T : Tys) (x : T.den) (cs : List Value), Ty.deep.go T = false → DRs w A T x cs → DRs w A' T x cs
  | .nil, _, _, _, h => by simpa only [DRs] using h
  | .cons t ts, x, cs, hd, h => by
    simp only [DRs] at h ⊢
    obtain ⟨c1, c2, e, h1, h2⟩ := h
    have hts : Ty.deep.go ts = false := by cases t <;> simp [Ty.deep.go] at hd <;> first | exact hd | exact hd.2
    have ht : t.deep = false := by cases t <;> simp [Ty.deep.go] at hd <;> simp [Ty.deep, hd]
    exact ⟨c1, c2, e, DR.flat t x.1 c1 ht h1, DRs.flat ts x.2 c2 hts h2⟩
end
mutual
theorem CR.flat : ∀ (v : PV) (cs : List Value), v.noSl = true → CR w A ob μ v cs → CR w A' ob μ v cs
  | .any, _, _, h => by simpa only [CR] using h
  | .undef, _, _, h => by simpa only [CR] using h
  | .int _ _, _, _, h => by simpa only [CR] using h
  | .bool _, _, _, h => by simpa only [CR] using h
  | .str _, _, _, h => by simpa only [CR] using h
  | .sl T xs, _, hn, _ => by simp [PV.noSl] at hn
  | .nil, _, _, h => by simpa only [CR] using h
  | .nilc _, _, _, h => by simpa only [CR] using h
  | .row o, cs, _, h => by simpa only [CR] using h
  | .agg l, cs, hn, h => by simp only [CR] at h ⊢; exact CRs.flat l cs (by simpa [PV.noSl] using hn) h
  | .tup l, cs, hn, h => by
    simp only [CR] at h ⊢
    obtain ⟨vs, e, h⟩ := h
    exact ⟨vs, e, TRs.flat l _ (by simpa [PV.noSl] using hn) h⟩
  | .ptr o p, cs, _, h => by simpa only [CR] using h
  | .el T x, _, hn, _ => by simp [PV.noSl] at hn
  | .elo o i p, cs, _, h => by simpa only [CR] using h
  | .func g l, cs, hn, h => by
    simp only [CR] at h ⊢
    obtain ⟨vs, e, h⟩ := h
    exact ⟨vs, e, TRs.flat l _ (by simpa [PV.noSl] using hn) h⟩
theorem CRs.flat : ∀ (l : List PV) (cs : List Value), PV.noSlL l = true → CRs w A ob μ l cs → CRs w A' ob μ l cs
  | [], _, _, h => by simpa only [CRs] using h
  | v :: l, cs, hn, h => by
    simp only [PV.noSlL, Bool.and_eq_true] at hn
    simp only [CRs] at h ⊢
    obtain ⟨c1, c2, e, h1, h2⟩ := h
    exact ⟨c1, c2, e, CR.flat v c1 hn.1 h1, CRs.flat l c2 hn.2 h2⟩
theorem TRs.flat : ∀ (l : List PV) (vs : List Value), PV.noSlL l = true → TRs w A ob μ l vs → TRs w A' ob μ l vs
  | [], _, _, h => by simpa only [TRs] using h
  | v :: l, vs, hn, h => by
    simp only [PV.noSlL, Bool.and_eq_true] at hn
    simp only [TRs] at h ⊢
    obtain ⟨x, r, e, h1, h2⟩ := h
    exact ⟨x, r, e, h1.imp id (fun h => ⟨CR.flat v _ hn.1 h.1, h.2⟩), TRs.flat l r hn.2 h2⟩
end
theorem VR.flat {v : PV} {x : Value} (hn : v.noSl = true) (h : VR w A ob μ v x) : VR w A' ob μ v x := h.imp id fun h => ⟨CR.flat v _ hn h.1, h.2⟩
theorem OR.flat {o : Nat} (hn : (ob o).noSl = true) (h : OR w A ob μ o) : OR w A' ob μ o := by
  unfold OR at h ⊢
  cases ho : ob o with
  | dead => trivial
  | box d v =>
    rw [ho] at hn
    simp only [ho] at h ⊢
    obtain ⟨b, cs, t, e, hh, hf, hc⟩ := h
    exact ⟨b, cs, t, e, hh, hf, CR.flat v _ hn hc⟩
  | row T xs =>
    rw [ho] at hn
    simp only [ho] at h ⊢
    have hd : T.deep = false := by simpa [OB.noSl] using hn
    rcases h with h | ⟨b, off, c, cs, t, e, hh, h3, h4, h5, h6⟩
    · exact .inl h
    · refine .inr ⟨b, off, c, cs, t, e, hh, h3, h4, h5, fun i x hi => ?_⟩
      obtain ⟨cx, h7, h8⟩ := h6 i x hi
      exact ⟨cx, DR.flat T x cx hd h7, h8⟩
end

/-! ### What is right of a function -/
def Enters (P : Program) (f : FuncId) : Prop := ∀ (args : Array Value) (w : World), (callFunc f args).run P w = .ok (.enter f args) w
structure CallPost (w w' : World) (A : Nat → Prop) (objs : List OB) (μ : Nat → Value) (objs' : List OB) (μ' : Nat → Value) (res : PV) (v : Value) : Prop where
  olen : objs.length ≤ objs'.length
  keep : Keep (own (obs objs) μ) w w'
  lie : Objs w' (fun b => A b ∨ own (obs objs') μ' b) (obs objs') μ'
  res : VR w' (fun b => A b ∨ own (obs objs') μ' b) (obs objs') μ' res v
  mine : ∀ b, own (obs objs') μ' b → own (obs objs) μ b ∨ w.heap.size ≤ b
  later : ∀ i, i < objs.length → Later (obs objs) μ (obs objs') μ' i
/-- A call does what is said of the function: for whatever follows. -/
def SoundF (P : Program) (f : FuncId) (sem : FSem) : Prop :=
  ∀ {ρ : Type} (args : List PV) (objs : List OB) (K : PV → List OB → Option ρ) (r : ρ), sem.run args objs K = some r → Enters P f ∧
    ∀ (w : World) (A : Nat → Prop) (μ : Nat → Value) (vals : List Value), Objs w A (obs objs) μ → TRs w A (obs objs) μ args vals →
      Calls P f vals.toArray w fun e w' => ∃ v res objs' μ', e = .returned v ∧ K res objs' = some r ∧ CallPost w w' A objs μ objs' μ' res v
def EnvOK (P : Program) (E : Env) : Prop := EnvTy P E ∧ ∀ f, SoundF P f (E.call f)
theorem SoundF.never (P : Program) (f : FuncId) : SoundF P f FSem.never := fun _ _ _ _ h => by cases h

section
variable {P : Program} {E : Env} {c : Cx} {S : St} {μ : Nat → Value} {a : Act} {w : World} {n : Nat} {ρ : Type} {r : ρ}
theorem oidsL_append (l m : List PV) : PV.oidsL (l ++ m) = PV.oidsL l ++ PV.oidsL m := by
  induction l with
  | nil => rfl
  | cons v l ih => simp [PV.oidsL, ih]
theorem isAny_oids {v : PV} (h : v.isAny = true) : v.oids = [] := by cases v <;> first | rfl | cases h
theorem prep_sound : ∀ (ms : List Mode) (args : List PV) (vals : List Value) {S : St} {μ : Nat → Value} {K : St → List PV → Option ρ}, prepArgs S ms args K = some r → SR c S μ a w → TRs w (av c S.ob μ) S.ob μ args vals →
    (∀ o ∈ PV.oidsL args, o ∈ PV.oidsL S.slots) → n ≤ S.objs.length →
    ∃ S1 μ1 args1, K S1 args1 = some r ∧ SR c S1 μ1 a w ∧ TRs w (av c S1.ob μ1) S1.ob μ1 args1 vals ∧ Ag n [] S μ S1 μ1 ∧ S1.slots = S.slots ∧ (∀ o, (o < S.objs.length ∨ o ∈ PV.oidsL S.slots) → Later S.ob μ S1.ob μ1 o) ∧ (∀ x, own S1.ob μ1 x → own S.ob μ x)
  | [], vs, vals, S, μ, K, h, hsr, hv, ho, hn => ⟨S, μ, vs, by simpa only [prepArgs] using h, hsr, hv, Ag.refl _ hn, rfl, fun o _ => Later.refl _ _ o, fun _ h => h⟩
  | _ :: _, [], vals, S, μ, K, h, hsr, hv, ho, hn => ⟨S, μ, [], by simpa only [prepArgs] using h, hsr, hv, Ag.refl _ hn, rfl, fun o _ => Later.refl _ _ o, fun _ h => h⟩
  | m :: ms, v :: vs, vals, S, μ, K, h, hsr, hv, ho, hn => by
    simp only [prepArgs] at h
    simp only [TRs] at hv
    obtain ⟨x, rest, rfl, hx, hrest⟩ := hv
    have hplain : ∀ (h : prepArgs S ms vs (fun S' l => K S' (v :: l)) = some r), ∃ S1 μ1 args1, K S1 args1 = some r ∧ SR c S1 μ1 a w ∧ TRs w (av c S1.ob μ1) S1.ob μ1 args1 (x :: rest) ∧ Ag n [] S μ S1 μ1 ∧ S1.slots = S.slots ∧ (∀ o, (o < S.objs.length ∨ o ∈ PV.oidsL S.slots) → Later S.ob μ S1.ob μ1 o) ∧ (∀ x, own S1.ob μ1 x → own S.ob μ x) := by
      intro h
      obtain ⟨S1, μ1, args1, h1, h2, h3, h4, h5, h6, h7⟩ := prep_sound ms vs rest h hsr hrest (fun o hoo => ho o (by simp [PV.oidsL, hoo])) hn
      refine ⟨S1, μ1, v :: args1, h1, h2, ?_, h4, h5, h6, h7⟩
      simp only [TRs]
      refine ⟨x, rest, rfl, ?_, h3⟩
      have : VR w (av c S.ob μ) S.ob μ v x := hx
      exact VR.later (Keep.refl None w) (fun b _ hb => hb.imp id (h7 b)) (fun _ h => h.elim) (fun o hoo => h6 o (.inr (ho o (by simp [PV.oidsL, hoo])))) this
    split at h
    · rename_i T
      obtain ⟨hf, h⟩ := cond_some h
      have hfr := fresh_iff hf
      have hx' : VR w (av c S.ob μ) S.ob μ .nil x := hx
      have hxe := hx'.nil
      subst hxe
      obtain ⟨μ', h1, h2, h3, h4, h5⟩ := hsr.add' (al := S.objs.length) (w' := w) (d := none) (pv := .row S.objs.length) (v := .slice none 0 0) (nb := some (.row T [])) (Keep.refl None w) (fun _ _ => hfr)
        ⟨.slice none 0 0, by simp [blkOf], by unfold OR; rw [upd_same]; exact .inl ⟨rfl, by rw [upd_same]⟩, by
          refine .of_one ?_ rfl rfl
          simp only [CR]
          exact ⟨_, rfl, rfl, by rw [upd_same, upd_same]⟩⟩
      have hS : S.add S.objs.length none (.row S.objs.length) (some (.row T [])) = S.new S.objs.length (.row T []) := rfl
      rw [hS] at h1 h2 h3 h4 h5
      have hsl : ∀ o ∈ PV.oidsL S.slots, Later S.ob μ (S.new S.objs.length (.row T [])).ob μ' o := fun o hoo => h4 o (fun _ e => hfr.slots (e ▸ hoo))
      have hown : ∀ x, own (S.new S.objs.length (.row T [])).ob μ' x → own S.ob μ x := fun x hx => by
        rcases h5 x hx with h | ⟨h, _⟩
        · exact h
        · have := h1.objs.old x (.inr hx); omega
      have hlen : (S.new S.objs.length (.row T [])).objs.length = S.objs.length + 1 := by simp [St.new]
      obtain ⟨S1, μ1, args1, g1, g2, g3, g4, g5, g6, g7⟩ := prep_sound ms vs rest h h1 (by
          have : TRs w (av c S.ob μ) S.ob μ vs rest := hrest
          exact TRs.later (Keep.refl None w) (fun b _ hb => hb.imp id (hown b)) (fun _ h => h.elim) _ (fun o hoo => hsl o (ho o (by simp [PV.oidsL, hoo]))) _ this)
        (fun o hoo => ho o (by simp [PV.oidsL, hoo])) (by omega)
      refine ⟨S1, μ1, .row S.objs.length :: args1, g1, g2, ?_, h2 n [] (fun _ h => by cases h) hn hn |>.trans g4 (fun _ h => h) (fun _ h => h), g5, fun o hoo => ?_, fun x hx => hown x (g7 x hx)⟩
      · simp only [TRs]
        refine ⟨_, rest, rfl, ?_, g3⟩
        have h3' : VR w (av c (S.new S.objs.length (.row T [])).ob μ') (S.new S.objs.length (.row T [])).ob μ' (.row S.objs.length) (.slice none 0 0) := h3
        exact VR.later (Keep.refl None w) (fun b _ hb => hb.imp id (g7 b)) (fun _ h => h.elim) (fun o hoo => g6 o (.inl (by simp only [PV.oids, List.mem_singleton] at hoo; omega))) h3'
      · have k1 := g6 o (hoo.imp (fun h => by omega) (fun h => h))
        have k2 : Later S.ob μ (S.new S.objs.length (.row T [])).ob μ' o := h4 o (fun _ e => by
          rcases hoo with h | h
          · omega
          · exact hfr.slots (e ▸ h))
        exact k2.trans k1
    · exact hplain h
theorem showData {A0 : Nat → Prop} (hO : Objs w A0 S.ob μ) {A : Nat → Prop} (hA : ∀ b, A b → A0 b) {T : Ty} {v : PV} {xs : List T.den} {x : Value} (h : asData S T v = some xs) (hv : VR w A0 S.ob μ v x)
    (hs : ∀ o, v = .row o → ∀ b, blkOf (μ o) = some b → ¬ A b) : VR w A S.ob μ (.sl T xs) x := by
  unfold asData at h
  split at h
  · rename_i U ys
    obtain ⟨e, h⟩ := castL_some h
    subst e; subst h
    exact VR.mk_sl (DR.keep (Keep.refl None w) (fun b _ hb => hA b hb) (fun _ h => h.elim) _ _ _ hv.sl)
  · cases h
    rw [hv.nil]
    refine VR.mk_sl ?_
    simp only [DR]
    exact ⟨none, 0, rfl, ⟨Nat.le_refl _, Nat.zero_le _⟩, .inl rfl⟩
  · rename_i o
    split at h
    · rename_i U ys hob
      obtain ⟨e, h⟩ := castL_some h
      subst e; subst h
      have hm := hv.row hob
      have hor := hO.each o
      simp only [OR, hob] at hor
      rcases hor with ⟨h0, hm'⟩ | ⟨b, off, c0, cs, tt, hm', hheap, hlc, hlc2, _, hel⟩
      · rw [hm'] at hm
        have : ys = [] := List.length_eq_zero_iff.1 h0
        subst this
        subst hm
        refine VR.mk_sl ?_
        simp only [DR]
        exact ⟨none, 0, rfl, ⟨Nat.le_refl _, Nat.zero_le _⟩, .inl rfl⟩
      · rw [hm'] at hm
        subst hm
        refine VR.mk_sl ?_
        simp only [DR]
        refine ⟨_, c0, rfl, ⟨hlc, hlc2⟩, .inr ⟨b, off, rfl, hs o rfl b (by rw [hm']; rfl), hO.old _ (hO.mine _ ⟨o, by rw [hob]; rfl, by rw [hm']; rfl⟩), fun i y hi => ?_⟩⟩
        obtain ⟨cx, h1, h2⟩ := hel i y hi
        refine ⟨cx, DR.keep (Keep.refl None w) (fun b _ hb => hA b hb) (fun _ h => h.elim) _ _ _ h1, fun j v hj => ?_⟩
        simp only [World.cell?, hheap]
        simpa using h2 j v hj
    · cases h
  · cases h
theorem showArgs_sound {A0 : Nat → Prop} (hO : Objs w A0 S.ob μ) {A : Nat → Prop} (hA : ∀ b, A b → A0 b) : ∀ (ms : List Mode) (args as : List PV) (vals : List Value), showArgs S ms args = some as → TRs w A0 S.ob μ args vals →
    (∀ o ∈ shownIn ms args, ∀ b, blkOf (μ o) = some b → ¬ A b) → TRs w A S.ob μ as vals
  | [], vs, as, vals, h, hv, _ => by
    simp only [showArgs, Option.some.injEq] at h
    subst h
    exact TRs.later (Keep.refl None w) (fun b _ hb => hA b hb) (fun _ h => h.elim) vs (fun o _ => Later.refl _ _ o) vals hv
  | m :: ms, [], as, vals, h, hv, _ => by
    have : as = [] := by cases m <;> simpa [showArgs] using h.symm
    subst this
    simpa only [TRs] using hv
  | m :: ms, v :: vs, as, vals, h, hv, hs => by
    simp only [TRs] at hv
    obtain ⟨x, rest, rfl, hx, hrest⟩ := hv
    have hx' : VR w A0 S.ob μ v x := hx
    have hk : VR w A S.ob μ v x := VR.later (Keep.refl None w) (fun b _ hb => hA b hb) (fun _ h => h.elim) (fun o _ => Later.refl _ _ o) hx'
    have hsub : ∀ o, o ∈ shownIn ms vs → o ∈ shownIn (m :: ms) (v :: vs) := fun o ho => by
      cases m <;> cases v <;> simp [shownIn, ho]
    cases m with
    | val =>
      simp only [showArgs] at h
      obtain ⟨l, h1, h2⟩ := Option.bind_eq_some_iff.1 h
      cases h2
      simp only [TRs]
      exact ⟨x, rest, rfl, hk, showArgs_sound hO hA ms vs l rest h1 hrest (fun o ho => hs o (hsub o ho))⟩
    | rw T =>
      simp only [showArgs] at h
      obtain ⟨l, h1, h2⟩ := Option.bind_eq_some_iff.1 h
      cases h2
      simp only [TRs]
      exact ⟨x, rest, rfl, hk, showArgs_sound hO hA ms vs l rest h1 hrest (fun o ho => hs o (hsub o ho))⟩
    | ro T =>
      simp only [showArgs] at h
      obtain ⟨xs, h0, h⟩ := Option.bind_eq_some_iff.1 h
      obtain ⟨l, h1, h2⟩ := Option.bind_eq_some_iff.1 h
      cases h2
      simp only [TRs]
      exact ⟨x, rest, rfl, showData hO hA h0 hx' (fun o e b hb => hs o (by subst e; simp [shownIn]) b hb), showArgs_sound hO hA ms vs l rest h1 hrest (fun o ho => hs o (hsub o ho))⟩
/-! ### Numbers of objects -/
theorem mem_not {n : Nat} {l : List Nat} : mem n l = false ↔ n ∉ l := by rw [← Bool.not_eq_true, mem_iff]
theorem nodup_iff : ∀ {l : List Nat}, nodup l = true ↔ l.Nodup
  | [] => by simp [nodup]
  | n :: l => by simp [nodup, nodup_iff (l := l), mem_not]
theorem disj_iff : ∀ {l m : List Nat}, disj l m = true ↔ ∀ x ∈ l, x ∉ m
  | [], m => by simp [disj]
  | n :: l, m => by simp [disj, disj_iff (l := l), mem_not]
theorem within0_iff : ∀ {l m : List Nat}, within0 l m = true ↔ ∀ x ∈ l, x ∈ m
  | [], m => by simp [within0]
  | n :: l, m => by simp [within0, within0_iff (l := l), mem_iff]
theorem boundL_iff {n : Nat} : ∀ {l : List Nat}, boundL n l = true ↔ ∀ x ∈ l, x < n
  | [] => by simp [boundL]
  | m :: l => by simp [boundL, boundL_iff (l := l)]
theorem boundO_iff {n : Nat} : ∀ {l : List OB}, boundO n l = true ↔ ∀ b ∈ l, ∀ x ∈ b.oids, x < n
  | [] => by simp [boundO]
  | m :: l => by simp [boundO, boundO_iff (l := l), boundL_iff]
theorem allAlive_iff : ∀ {l : List Nat}, allAlive S l = true ↔ ∀ x ∈ l, (S.ob x).alive = true
  | [] => by simp [allAlive]
  | m :: l => by simp [allAlive, allAlive_iff (l := l)]
theorem closed_iff {acc : List Nat} : closed S acc = true ↔ ∀ o ∈ acc, ∀ x ∈ (S.ob o).oids, x ∈ acc := by
  unfold closed
  have : ∀ l, closed.go S acc l = true ↔ ∀ o ∈ l, ∀ x ∈ (S.ob o).oids, x ∈ acc := by
    intro l
    induction l with
    | nil => simp [closed.go]
    | cons o l ih => simp [closed.go, ih, mem_iff]
  exact this acc
theorem noSlAll_iff : ∀ {l : List OB}, noSlAll l = true ↔ ∀ b ∈ l, b.noSl = true
  | [] => by simp [noSlAll]
  | m :: l => by simp [noSlAll, noSlAll_iff (l := l)]
theorem ob_oids_mem {S : St} {o x : Nat} (h : x ∈ (S.ob o).oids) : ∃ b ∈ S.objs, x ∈ b.oids := by
  simp only [St.ob, List.getD] at h
  cases hx : S.objs[o]? with
  | none => simp [hx, OB.oids] at h
  | some b => simp only [hx, Option.getD_some] at h; exact ⟨b, List.mem_of_getElem? hx, h⟩
theorem alive_lt {S : St} {o : Nat} (h : (S.ob o).alive = true) : o < S.objs.length := by
  rcases Nat.lt_or_ge o S.objs.length with h1 | h1
  · exact h1
  · have : S.objs[o]? = none := by simp; omega
    simp [St.ob, List.getD, this, OB.alive] at h
theorem posOf_mem : ∀ {l : List Nat} {n : Nat}, n ∈ l → posOf n l < l.length ∧ l.getD (posOf n l) 0 = n
  | [], _, h => by cases h
  | m :: l, n, h => by
    simp only [posOf]
    by_cases e : n = m
    · subst e; simp
    · have : Nat.beq n m = false := by rw [← Bool.not_eq_true]; simpa using e
      rw [this]
      have := posOf_mem (l := l) (n := n) (by simpa [e] using h)
      simp only [cond_false, List.length_cons, List.getD_cons_succ]
      exact ⟨by omega, this.2⟩
theorem posOf_get : ∀ {l : List Nat} {i : Nat}, l.Nodup → i < l.length → posOf (l.getD i 0) l = i
  | [], _, _, h => by cases h
  | m :: l, 0, _, _ => by simp [posOf]
  | m :: l, i + 1, hn, h => by
    simp only [List.nodup_cons] at hn
    have h' : i < l.length := by simpa using h
    have hm : l.getD i 0 ∈ l := by simp only [List.getD, List.getElem?_eq_getElem h', Option.getD_some]; exact List.getElem_mem h'
    simp only [posOf, List.getD_cons_succ]
    have : Nat.beq (l.getD i 0) m = false := by rw [← Bool.not_eq_true]; intro e; exact hn.1 (by rw [← Nat.eq_of_beq_eq_true e]; exact hm)
    rw [this]
    rw [posOf_get hn.2 h']; rfl
theorem getD_mem {l : List Nat} {i : Nat} (h : i < l.length) : l.getD i 0 ∈ l := by
  simp only [List.getD, List.getElem?_eq_getElem h, Option.getD_some]; exact List.getElem_mem h
theorem writeBack_get (back : Nat → Nat) : ∀ (acc : List Nat) (l objs : List OB) (o : Nat), acc.Nodup → (∀ x ∈ acc, x < objs.length) → acc.length ≤ l.length →
    (writeBack back acc l objs).getD o .dead = if o ∈ acc then (l.getD (posOf o acc) .dead).ren back else if o < objs.length then objs.getD o .dead else (l.getD (acc.length + (o - objs.length)) .dead).ren back
  | [], l, objs, o, _, _, _ => by
    simp only [writeBack, List.not_mem_nil, if_false, List.length_nil, Nat.zero_add, List.getD, List.getElem?_append]
    split
    · rfl
    · simp only [List.getElem?_map]
      cases l[o - objs.length]? <;> simp [OB.ren]
  | a :: acc, [], objs, o, _, _, h => by simp at h
  | a :: acc, b :: bs, objs, o, hn, hb, h => by
    simp only [List.nodup_cons] at hn
    simp only [writeBack]
    rw [writeBack_get back acc bs _ o hn.2 (fun x hx => by simpa using hb x (by simp [hx])) (by simpa using h)]
    by_cases h1 : o ∈ acc
    · have e : o ≠ a := fun e => hn.1 (e ▸ h1)
      have : Nat.beq o a = false := by rw [← Bool.not_eq_true]; simpa using e
      simp [h1, posOf, this]
    · by_cases e : o = a
      · subst e
        have := hb o (by simp)
        simp [h1, posOf, this]
      · simp only [h1, if_false, List.mem_cons, e, or_self, List.length_set, List.length_cons]
        split
        · simp [List.getD, List.getElem?_set, Ne.symm e]
        · rw [show acc.length + 1 + (o - objs.length) = acc.length + (o - objs.length) + 1 from by omega, List.getD_cons_succ]
/-! ### The call itself -/
theorem obs_len {l : List OB} {i : Nat} (h : (obs l i).alive = true) : i < l.length := by
  rcases Nat.lt_or_ge i l.length with h1 | h1
  · exact h1
  · have : l[i]? = none := by simp; omega
    simp [obs, List.getD, this, OB.alive] at h
theorem obs_oids {l : List OB} {i x : Nat} (h : x ∈ (obs l i).oids) : i < l.length := by
  rcases Nat.lt_or_ge i l.length with h1 | h1
  · exact h1
  · have : l[i]? = none := by simp; omega
    simp [obs, List.getD, this, OB.oids] at h
theorem noSl_obs {l : List OB} (h : noSlAll l = true) (i : Nat) : (obs l i).noSl = true := by
  simp only [obs, List.getD]
  cases hx : l[i]? with
  | none => rfl
  | some b => exact noSlAll_iff.1 h b (List.mem_of_getElem? hx)
theorem shown_alive : ∀ (ms : List Mode) (args as : List PV), showArgs S ms args = some as → ∀ o ∈ shownIn ms args, (S.ob o).alive = true
  | [], vs, as, h => by cases vs <;> simp [shownIn]
  | m :: ms, [], as, h => by cases m <;> simp [shownIn]
  | m :: ms, v :: vs, as, h => by
    cases m with
    | val =>
      simp only [showArgs] at h
      obtain ⟨l, h1, h2⟩ := Option.bind_eq_some_iff.1 h
      have := shown_alive ms vs l h1
      intro o ho
      exact this o (by cases v <;> simpa [shownIn] using ho)
    | rw T =>
      simp only [showArgs] at h
      obtain ⟨l, h1, h2⟩ := Option.bind_eq_some_iff.1 h
      have := shown_alive ms vs l h1
      intro o ho
      exact this o (by cases v <;> simpa [shownIn] using ho)
    | ro T =>
      simp only [showArgs] at h
      obtain ⟨xs, h0, h⟩ := Option.bind_eq_some_iff.1 h
      obtain ⟨l, h1, h2⟩ := Option.bind_eq_some_iff.1 h
      have := shown_alive ms vs l h1
      intro o ho
      by_cases e : ∃ o', v = .row o'
      · obtain ⟨o', rfl⟩ := e
        simp only [shownIn, List.mem_cons] at ho
        rcases ho with rfl | ho
        · simp only [asData] at h0
          split at h0
          · rename_i hob; rw [hob]; rfl
          · cases h0
        · exact this o ho
      · exact this o (by cases v <;> first | (exact absurd ⟨_, rfl⟩ e) | simpa [shownIn] using ho)
/-- the function as its callers see it: from the state to the state -/
theorem call_sound {f : Nat} (hF : SoundF P f (E.call f)) {args : List PV} {vals : List Value} {K : St → PV → Option ρ} (h : evCall E f args S K = some r) (hsr : SR c S μ a w) (hv : TRs w (av c S.ob μ) S.ob μ args vals)
    (ho : ∀ o ∈ PV.oidsL args, o ∈ PV.oidsL S.slots) (hn : n ≤ S.objs.length) :
    Enters P f ∧ Calls P f vals.toArray w fun e w' => ∃ v pv S' μ', e = .returned v ∧ K S' pv = some r ∧ SR c S' μ' a w' ∧ VR w' (av c S'.ob μ') S'.ob μ' pv v ∧ Ag n [] S μ S' μ' := by
  obtain ⟨S1, μ1, args1, h, hsr1, hv1, hag1, hslots, hlat1, _⟩ := prep_sound (n := n) _ _ _ h hsr hv ho hn
  obtain ⟨as, has, h⟩ := optK_some h
  obtain ⟨hc, h⟩ := cond_some h
  simp only [Bool.and_eq_true] at hc
  obtain ⟨hal, hnd, hcl, hwi, hdj⟩ := hc
  rw [allAlive_iff] at hal
  rw [nodup_iff] at hnd
  rw [closed_iff] at hcl
  rw [within0_iff] at hwi
  rw [disj_iff] at hdj
  generalize hacc : reach S1 1000 (PV.oidsL as) [] = acc at *
  generalize hobs : (acc.map fun o => (S1.ob o).ren (posOf · acc)) = objs at *
  have holen : objs.length = acc.length := by subst hobs; simp
  have hobsi : ∀ i, i < acc.length → obs objs i = (S1.ob (acc.getD i 0)).ren (posOf · acc) := by
    intro i hi
    subst hobs
    simp [obs, List.getD, List.getElem?_map, List.getElem?_eq_getElem hi]
  let μc : Nat → Value := fun i => μ1 (acc.getD i 0)
  let A : Nat → Prop := fun b => av c S1.ob μ1 b ∧ ∀ o ∈ shownIn (E.call f).modes args1, blkOf (μ1 o) ≠ some b
  have hAav : ∀ b, A b → av c S1.ob μ1 b := fun b h => h.1
  have hmoved : ∀ o ∈ acc, Moved S1.ob μ1 (obs objs) μc o (posOf o acc) := by
    intro o hoa
    obtain ⟨h1, h2⟩ := posOf_mem hoa
    unfold Moved
    rw [hobsi _ h1, h2]
    cases hb : S1.ob o with
    | dead => trivial
    | box d v => exact ⟨⟨v, rfl⟩, by show μ1 (acc.getD _ 0) = _; rw [h2]⟩
    | row T xs => exact ⟨⟨xs, rfl⟩, by show μ1 (acc.getD _ 0) = _; rw [h2]⟩
  have hargs : TRs w A (obs objs) μc (PV.renL (posOf · acc) as) vals :=
    TRs.ren _ as (fun o hoo => hmoved o (hwi o hoo)) _ (showArgs_sound hsr1.objs hAav _ _ _ _ has hv1 (fun o hoo b hb hA => hA.2 o hoo hb))
  have hownc : ∀ b, own (obs objs) μc b → ∃ o ∈ acc, (S1.ob o).alive = true ∧ blkOf (μ1 o) = some b := by
    rintro b ⟨i, h1, h2⟩
    have hi := obs_len h1
    rw [holen] at hi
    exact ⟨acc.getD i 0, getD_mem hi, hal _ (getD_mem hi), h2⟩
  have hlie : Objs w A (obs objs) μc := by
    refine ⟨fun i => ?_, fun i j b h1 h2 h3 h4 => ?_, fun b hb => ?_, fun b hb => hsr1.objs.old b hb.1⟩
    · rcases Nat.lt_or_ge i acc.length with hi | hi
      · have hm := getD_mem hi
        have h1 : OR w (av c S1.ob μ1) (obs objs) μc i := OR.ren (posOf · acc) (hsr1.objs.each (acc.getD i 0)) (hobsi i hi) rfl (fun x hx => hmoved x (hcl _ hm x hx))
        exact h1.later (Keep.refl None w) (fun b _ hb => hAav b hb) (fun _ h => h.elim) (.inl rfl) (fun _ => rfl)
          (fun b _ hb => ⟨fun h => h.elim, own_lt hsr1 ⟨acc.getD i 0, hal _ hm, hb⟩⟩) (fun x _ => Later.refl _ _ x)
      · unfold OR
        have : obs objs i = .dead := by
          have : objs[i]? = none := by simp; omega
          simp [obs, List.getD, this]
        rw [this]; trivial
    · have hi := obs_len h1
      have hj := obs_len h2
      rw [holen] at hi hj
      have := hsr1.objs.apart _ _ b (hal _ (getD_mem hi)) (hal _ (getD_mem hj)) h3 h4
      rw [← posOf_get hnd hi, ← posOf_get hnd hj, this]
    · obtain ⟨o, h1, h2, h3⟩ := hownc b hb
      refine ⟨.inr ⟨o, h2, h3⟩, fun o' h4 h5 => hdj o' h4 ?_⟩
      rw [hsr1.objs.apart o' o b (shown_alive _ _ _ has o' h4) h2 h5 h3]
      exact h1
  obtain ⟨hen, hcalls⟩ := hF _ _ _ _ h
  refine ⟨hen, (hcalls w A μc vals hlie hargs).mono ?_⟩
  rintro e w' ⟨v, res, objs', μ', rfl, hk, hp⟩
  obtain ⟨hc, hk⟩ := cond_some hk
  simp only [Bool.and_eq_true, Bool.or_eq_true] at hc
  obtain ⟨hsl, huns⟩ := hc
  simp only [unseen, Bool.and_eq_true] at huns
  rw [boundL_iff, boundO_iff] at huns
  generalize hback : (fun i => cond (Nat.blt i acc.length) (acc.getD i 0) (S1.objs.length + (i - acc.length)) : Nat → Nat) = back at hk
  have hback1 : ∀ i, i < acc.length → back i = acc.getD i 0 := fun i hi => by
    subst hback
    have : Nat.blt i acc.length = true := by simpa using hi
    simp only [this, cond_true]
  have hback2 : ∀ i, acc.length ≤ i → back i = S1.objs.length + (i - acc.length) := fun i hi => by
    subst hback
    have : Nat.blt i acc.length = false := by rw [← Bool.not_eq_true]; simp; omega
    simp only [this, cond_false]
  have hlt : ∀ x ∈ acc, x < S1.objs.length := fun x hx => alive_lt (hal x hx)
  have hol := hp.olen
  rw [holen] at hol
  generalize hS2 : ({ S1 with objs := writeBack back acc objs' S1.objs, touched := acc ++ S1.touched } : St) = S2 at hk
  have hob2 : ∀ o, S2.ob o = if o ∈ acc then (obs objs' (posOf o acc)).ren back else if o < S1.objs.length then S1.ob o else (obs objs' (acc.length + (o - S1.objs.length))).ren back := by
    intro o
    subst hS2
    exact writeBack_get back acc objs' S1.objs o hnd hlt hol
  let μ2 : Nat → Value := fun o => if o ∈ acc then μ' (posOf o acc) else if o < S1.objs.length then μ1 o else μ' (acc.length + (o - S1.objs.length))
  have hob2b : ∀ i, S2.ob (back i) = (obs objs' i).ren back ∧ μ2 (back i) = μ' i := by
    intro i
    rcases Nat.lt_or_ge i acc.length with hi | hi
    · have hm := getD_mem hi
      rw [hback1 i hi, hob2, if_pos hm, posOf_get hnd hi]
      exact ⟨rfl, by show (if _ then _ else _) = _; rw [if_pos hm, posOf_get hnd hi]⟩
    · rw [hback2 i hi, hob2]
      have h1 : ¬ (S1.objs.length + (i - acc.length)) ∈ acc := fun h => by have := hlt _ h; omega
      have h2 : ¬ (S1.objs.length + (i - acc.length) < S1.objs.length) := by omega
      rw [if_neg h1, if_neg h2, show acc.length + (S1.objs.length + (i - acc.length) - S1.objs.length) = i from by omega]
      refine ⟨rfl, ?_⟩
      show (if _ then _ else if _ then _ else _) = _
      rw [if_neg h1, if_neg h2, show acc.length + (S1.objs.length + (i - acc.length) - S1.objs.length) = i from by omega]
  have hother : ∀ o, o ∉ acc → o < S1.objs.length → S2.ob o = S1.ob o ∧ μ2 o = μ1 o := fun o h1 h2 => by
    rw [hob2, if_neg h1, if_pos h2]
    refine ⟨rfl, ?_⟩
    show (if _ then _ else if _ then _ else _) = _
    rw [if_neg h1, if_pos h2]
  have hwhere : ∀ o, (o ∉ acc ∧ o < S1.objs.length) ∨ ∃ i, back i = o ∧ (i < acc.length ↔ o ∈ acc) := fun o => by
    by_cases h1 : o ∈ acc
    · obtain ⟨h2, h3⟩ := posOf_mem h1
      exact .inr ⟨posOf o acc, by rw [hback1 _ h2, h3], by simp [h1, h2]⟩
    · rcases Nat.lt_or_ge o S1.objs.length with h2 | h2
      · exact .inl ⟨h1, h2⟩
      · exact .inr ⟨acc.length + (o - S1.objs.length), by rw [hback2 _ (by omega)]; omega, by simp [h1]⟩
  have hlater : ∀ o, o < S1.objs.length → Later S1.ob μ1 S2.ob μ2 o := by
    intro o hlo
    by_cases h1 : o ∈ acc
    · obtain ⟨h2, h3⟩ := posOf_mem h1
      have := hp.later (posOf o acc) (by omega)
      obtain ⟨h4, h5⟩ := hob2b (posOf o acc)
      rw [hback1 _ h2, h3] at h4 h5
      unfold Later at this ⊢
      rw [h4, h5]
      rw [hobsi _ h2, h3] at this
      have hμ : μc (posOf o acc) = μ1 o := by show μ1 (acc.getD _ 0) = _; rw [h3]
      rw [hμ] at this
      cases hx : obs objs' (posOf o acc) with
      | dead => trivial
      | box d v =>
        simp only [hx, OB.ren] at this ⊢
        obtain ⟨⟨v', h6⟩, h7⟩ := this
        refine ⟨?_, h7⟩
        cases hy : S1.ob o <;> rw [hy] at h6 <;> simp [OB.ren] at h6
        obtain ⟨rfl, _⟩ := h6
        exact ⟨_, rfl⟩
      | row T xs =>
        simp only [hx, OB.ren] at this ⊢
        obtain ⟨⟨v', h6⟩, h7⟩ := this
        refine ⟨?_, h7⟩
        cases hy : S1.ob o <;> rw [hy] at h6 <;> simp [OB.ren] at h6
        obtain ⟨rfl, _⟩ := h6
        exact ⟨_, rfl⟩
    · obtain ⟨h2, h3⟩ := hother o h1 hlo
      unfold Later
      rw [h2, h3]
      cases S1.ob o <;> simp
  have hownS1 : ∀ b, own (obs objs) μc b → own S1.ob μ1 b := fun b hb => by
    obtain ⟨o, _, h2, h3⟩ := hownc b hb
    exact ⟨o, h2, h3⟩
  have hown2 : ∀ b, own S2.ob μ2 b → (∃ o, o ∉ acc ∧ (S1.ob o).alive = true ∧ blkOf (μ1 o) = some b) ∨ own (obs objs') μ' b := by
    rintro b ⟨o, h1, h2⟩
    rcases hwhere o with ⟨h3, h4⟩ | ⟨i, h3, _⟩
    · obtain ⟨h5, h6⟩ := hother o h3 h4
      rw [h5] at h1
      rw [h6] at h2
      exact .inl ⟨o, h3, h1, h2⟩
    · obtain ⟨h5, h6⟩ := hob2b i
      rw [← h3, h5, alive_ren] at h1
      rw [← h3, h6] at h2
      exact .inr ⟨i, h1, h2⟩
  have hav2 : ∀ b, av c S2.ob μ2 b → av c S1.ob μ1 b ∨ (w.heap.size ≤ b ∧ own (obs objs') μ' b) := by
    rintro b (hb | hb)
    · exact .inl (.inl hb)
    · rcases hown2 b hb with ⟨o, _, h2, h3⟩ | h1
      · exact .inl (.inr ⟨o, h2, h3⟩)
      · rcases hp.mine b h1 with h2 | h2
        · exact .inl (.inr (hownS1 b h2))
        · exact .inr ⟨h2, h1⟩
  have hav2' : ∀ b, b < w.heap.size → av c S2.ob μ2 b → av c S1.ob μ1 b := fun b hb h => by
    rcases hav2 b h with h1 | ⟨h1, _⟩
    · exact h1
    · omega
  have hM : ∀ b, own (obs objs) μc b → av c S1.ob μ1 b := fun b hb => .inr (hownS1 b hb)
  have hmv2 : ∀ i, Moved (obs objs') μ' S2.ob μ2 i (back i) := fun i => by
    obtain ⟨h1, h2⟩ := hob2b i
    unfold Moved
    rw [h1, h2]
    cases obs objs' i <;> simp [OB.ren]
  have hA2 : (shownIn (E.call f).modes args1).isEmpty = true → ∀ b, av c S2.ob μ2 b → A b ∨ own (obs objs') μ' b := fun he b hb => by
    rcases hav2 b hb with h1 | h1
    · exact .inl ⟨h1, fun o ho => by rw [List.isEmpty_iff.1 he] at ho; cases ho⟩
    · exact .inr h1.2
  refine ⟨v, _, S2, μ2, rfl, hk, ⟨hsr1.defers, ?_, ⟨fun o => ?_, fun o o' b h1 h2 h3 h4 => ?_, fun b hb => .inr hb, fun b hb => ?_⟩, ?_, fun b hb => ?_⟩, ?_, ?_⟩
  · have : S2.slots = S1.slots := by subst hS2; rfl
    rw [this]
    exact hsr1.slots.later hp.keep hav2' hM (fun o hoo => hlater o (huns.1 o hoo))
  · rcases hwhere o with ⟨h3, h4⟩ | ⟨i, h3, _⟩
    · obtain ⟨h5, h6⟩ := hother o h3 h4
      refine (hsr1.objs.each o).later hp.keep hav2' hM (.inl h5) (fun _ => h6) (fun b ha hb => ⟨fun hx => ?_, own_lt hsr1 ⟨o, ha, hb⟩⟩) (fun x hx => ?_)
      · obtain ⟨o', g1, g2, g3⟩ := hownc b hx
        exact h3 (hsr1.objs.apart o o' b ha g2 hb g3 ▸ g1)
      · obtain ⟨b, hb, hx⟩ := ob_oids_mem hx
        exact hlater x (huns.2 b hb x hx)
    · obtain ⟨h5, h6⟩ := hob2b i
      rw [← h3]
      have h7 : OR w' (av c S2.ob μ2) (obs objs') μ' i := by
        rcases hsl with he | ⟨_, hl⟩
        · exact (hp.lie.each i).later (Keep.refl None w') (fun b _ hb => hA2 he b hb) (fun _ h => h.elim) (.inl rfl) (fun _ => rfl)
            (fun b ha hb => ⟨fun h => h.elim, hp.lie.old b (.inr ⟨i, ha, hb⟩)⟩) (fun x _ => Later.refl _ _ x)
        · exact OR.flat (noSl_obs hl i) (hp.lie.each i)
      exact OR.ren back h7 h5 h6 (fun x _ => hmv2 x)
  · have key : ∀ p q, p ∉ acc → p < S1.objs.length → (∃ i, back i = q) → (S2.ob p).alive = true → (S2.ob q).alive = true → blkOf (μ2 p) = some b → blkOf (μ2 q) = some b → False := by
      rintro p q hp1 hp2 ⟨i, rfl⟩ g1 g2 g3 g4
      obtain ⟨k1, k2⟩ := hother p hp1 hp2
      obtain ⟨k3, k4⟩ := hob2b i
      rw [k1] at g1
      rw [k2] at g3
      rw [k3, alive_ren] at g2
      rw [k4] at g4
      rcases hp.mine b ⟨i, g2, g4⟩ with h | h
      · obtain ⟨o', m1, m2, m3⟩ := hownc b h
        exact hp1 (hsr1.objs.apart p o' b g1 m2 g3 m3 ▸ m1)
      · have := own_lt hsr1 ⟨p, g1, g3⟩; omega
    rcases hwhere o with ⟨k1, k2⟩ | ⟨i, k1, _⟩ <;> rcases hwhere o' with ⟨k3, k4⟩ | ⟨j, k3, _⟩
    · obtain ⟨m1, m2⟩ := hother o k1 k2
      obtain ⟨m3, m4⟩ := hother o' k3 k4
      rw [m1] at h1; rw [m3] at h2; rw [m2] at h3; rw [m4] at h4
      exact hsr1.objs.apart o o' b h1 h2 h3 h4
    · exact (key o o' k1 k2 ⟨j, k3⟩ h1 h2 h3 h4).elim
    · exact (key o' o k3 k4 ⟨i, k1⟩ h2 h1 h4 h3).elim
    · obtain ⟨m1, m2⟩ := hob2b i
      obtain ⟨m3, m4⟩ := hob2b j
      rw [← k1, m1, alive_ren] at h1; rw [← k3, m3, alive_ren] at h2; rw [← k1, m2] at h3; rw [← k3, m4] at h4
      rw [← k1, ← k3, hp.lie.apart i j b h1 h2 h3 h4]
  · rcases hav2 b hb with h1 | ⟨_, h1⟩
    · exact Nat.lt_of_lt_of_le (hsr1.objs.old b h1) hp.keep.size
    · exact hp.lie.old b (.inr h1)
  · refine hsr1.keep.trans hp.keep (fun _ h => h) (fun b hb hx => ?_)
    rcases hsr1.mine b (hownS1 b hx) with h1 | h1
    · exact h1
    · omega
  · rcases hown2 b hb with ⟨o, _, h2, h3⟩ | h1
    · exact hsr1.mine b ⟨o, h2, h3⟩
    · rcases hp.mine b h1 with h2 | h2
      · exact hsr1.mine b (hownS1 b h2)
      · exact .inr (Nat.le_trans hsr1.keep.size h2)
  · refine VR.ren back (fun x _ => hmv2 x) ?_
    rcases hsl with he | ⟨hl, _⟩
    · exact VR.later (Keep.refl None w') (fun b _ hb => hA2 he b hb) (fun _ h => h.elim) (fun o _ => Later.refl _ _ o) hp.res
    · exact VR.flat hl hp.res
  · have hn1 : n ≤ S1.objs.length := hag1.olen
    refine hag1.trans (ds' := []) ⟨by subst hS2; rfl, fun t _ => by subst hS2; rfl, ?_, fun i hi => ?_, fun i hi => by subst hS2; simp [hi], fun i hi => hlater i (by omega)⟩ (fun _ h => h) (fun _ h => h)
    · have : S1.objs.length ≤ S2.objs.length := by
        subst hS2
        have : ∀ (acc : List Nat) (l objs : List OB), objs.length ≤ (writeBack back acc l objs).length := by
          intro acc
          induction acc with
          | nil => intro l objs; simp [writeBack]
          | cons a acc ih =>
            intro l objs
            cases l with
            | nil => simp [writeBack]
            | cons b l => simp only [writeBack]; have := ih l (objs.set a (b.ren back)); simpa using this
        exact this _ _ _
      omega
    · by_cases h1 : i ∈ acc
      · right; subst hS2; simp [h1]
      · exact .inl (hother i h1 (by omega)).1
end
end Go.Vm
