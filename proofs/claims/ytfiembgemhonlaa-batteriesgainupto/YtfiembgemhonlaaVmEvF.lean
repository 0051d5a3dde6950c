/- Vm, part 12: operations that change what is there. Own work. -/
import Derived.Test.YtfiembgemhonlaaVmState
import Derived.Laws.CopyRow
set_option linter.unusedVariables false
set_option linter.unusedSimpArgs false
namespace Go.Vm
open Go.RowKit

section
variable {w : World} {A : Nat → Prop} {ob : Nat → OB} {μ : Nat → Value}
mutual
theorem DR.plain : ∀ (T : Ty) (x : T.den) (cs : List Value), DR w A T x cs → ∀ v ∈ cs, v.oneCell' = true
  | .int _, _, _, h => by simp only [DR] at h; subst h; simp [Value.oneCell']
  | .bool, _, _, h => by simp only [DR] at h; subst h; simp [Value.oneCell']
  | .str, _, _, h => by simp only [DR] at h; rw [h.1]; simp [Value.oneCell']
  | .slice _, _, _, h => by simp only [DR] at h; obtain ⟨a, c, rfl, _⟩ := h; simp [Value.oneCell']
  | .struct fs, x, cs, h => by simp only [DR] at h; exact DRs.plain fs x cs h
theorem DRs.plain : ∀ (T : Tys) (x : T.den) (cs : List Value), DRs w A T x cs → ∀ v ∈ cs, v.oneCell' = true
  | .nil, _, _, h => by simp only [DRs] at h; subst h; simp
  | .cons t ts, x, cs, h => by
    simp only [DRs] at h
    obtain ⟨c1, c2, rfl, h1, h2⟩ := h
    intro v hv
    rcases List.mem_append.1 hv with hv | hv
    · exact DR.plain t x.1 c1 h1 v hv
    · exact DRs.plain ts x.2 c2 h2 v hv
end
mutual
theorem CR.plain : ∀ (v : PV) (cs : List Value), CR w A ob μ v cs → v.plain = true → ∀ x ∈ cs, x.oneCell' = true
  | .any, _, _, hp => by cases hp
  | .undef, _, _, hp => by cases hp
  | .int _ _, _, h, _ => by simp only [CR] at h; subst h; simp [Value.oneCell']
  | .bool _, _, h, _ => by simp only [CR] at h; subst h; simp [Value.oneCell']
  | .str _, _, h, _ => by simp only [CR] at h; rw [h.1]; simp [Value.oneCell']
  | .sl T xs, cs, h, _ => by simp only [CR] at h; exact DR.plain _ _ _ h
  | .nil, _, h, _ => by simp only [CR] at h; subst h; simp [Value.oneCell']
  | .nilc k, _, h, _ => by simp only [CR] at h; subst h; cases k <;> simp [Value.oneCell', nilV]
  | .row o, _, h, _ => by simp only [CR] at h; obtain ⟨v, rfl, h, _⟩ := h; simpa using h
  | .agg l, cs, h, hp => by simp only [CR] at h; simp only [PV.plain] at hp; exact CRs.plain l cs h hp
  | .tup _, _, _, hp => by cases hp
  | .ptr _ _, _, h, _ => by simp only [CR] at h; obtain ⟨v, rfl, h, _⟩ := h; simpa using h
  | .el _ _, _, h, _ => by simp only [CR] at h; obtain ⟨_, _, _, rfl, _⟩ := h; simp [Value.oneCell']
  | .elo _ _ _, _, h, _ => by simp only [CR] at h; obtain ⟨v, rfl, h, _⟩ := h; simpa using h
  | .func _ _, _, h, _ => by simp only [CR] at h; obtain ⟨_, rfl, _⟩ := h; simp [Value.oneCell']
theorem CRs.plain : ∀ (l : List PV) (cs : List Value), CRs w A ob μ l cs → PV.plainL l = true → ∀ x ∈ cs, x.oneCell' = true
  | [], _, h, _ => by simp only [CRs] at h; subst h; simp
  | v :: l, cs, h, hp => by
    simp only [CRs] at h
    simp only [PV.plainL, Bool.and_eq_true] at hp
    obtain ⟨c1, c2, rfl, h1, h2⟩ := h
    intro x hx
    rcases List.mem_append.1 hx with hx | hx
    · exact CR.plain v c1 h1 hp.1 x hx
    · exact CRs.plain l c2 h2 hp.2 x hx
end
theorem plain_not_any {v : PV} (h : v.plain = true) : v.isAny = false := by cases v <;> first | rfl | cases h
theorem plain_isAny {v : PV} (h : v.plain = true) : v.isAny = false := plain_not_any h
end

/-! ### Writing -/
/-- the world with another row in a block -/
theorem Keep.setRow (w : World) (b : Nat) (cs : Array Value) : Keep (· = b) w (w.setRow b cs) := by
  refine ⟨rfl, rfl, rfl, by simp [World.setRow], fun a => ?_, fun x hx hn => ?_⟩
  · unfold World.frozen?
    simp only [World.setRow, Array.getElem?_modify]
    by_cases e : b = a.block
    · rw [if_pos e]
      cases w.heap[a.block]? with
      | none => rfl
      | some o => cases o <;> rfl
    · rw [if_neg e]
  · simp only [World.setRow, Array.getElem?_modify]
    rw [if_neg (fun e => hn e.symm)]
theorem setRow_at {w : World} {b : Nat} {cs cs' : Array Value} {t : TypeId} {fr : Nat × Nat} (h : w.heap[b]? = some (.cells cs t fr)) : (w.setRow b cs').heap[b]? = some (.cells cs' t fr) := by
  simp only [World.setRow, Array.getElem?_modify, if_true, h, Option.map_some]
section
variable {c : Cx} {S : St} {μ : Nat → Value} {a : Act} {w : World}
/-- an object is written: its block alone changes -/
theorem SR.write (h : SR c S μ a w) {o b : Nat} {nb : OB} {w' : World} (ha : (S.ob o).alive = true) (hb : blkOf (μ o) = some b) (hk : Keep (· = b) w w')
    (hl : Later S.ob μ (upd S.ob o nb) μ o) (hn : nb.alive = true) (hor : OR w' (av c S.ob μ) (upd S.ob o nb) μ o) :
    SR c (S.setOb o nb) μ a w' ∧ (∀ n ds, n ≤ S.objs.length → Ag n ds S μ (S.setOb o nb) μ) := by
  have hob := ob_setOb S o nb ha
  have hown : ∀ x, own (upd S.ob o nb) μ x → own S.ob μ x := by
    rintro x ⟨o', h1, h2⟩
    by_cases e : o' = o
    · subst e; exact ⟨o', ha, h2⟩
    · rw [upd_other _ _ e] at h1; exact ⟨o', h1, h2⟩
  have hav : ∀ x, av c (upd S.ob o nb) μ x → av c S.ob μ x := fun x hx => hx.imp id (hown x)
  have hlat : ∀ x, Later S.ob μ (upd S.ob o nb) μ x := fun x => by
    by_cases e : x = o
    · subst e; exact hl
    · unfold Later
      rw [upd_other _ _ e]
      cases hx : S.ob x <;> simp
  have hM : ∀ x, x = b → av c S.ob μ x := fun x e => by subst e; exact .inr ⟨o, ha, hb⟩
  refine ⟨⟨h.defers, ?_, ?_, ?_, ?_⟩, fun n ds hn' => ?_⟩
  · rw [hob]
    exact h.slots.later hk (fun x _ hx => hav x hx) hM (fun x _ => hlat x)
  · rw [hob]
    refine ⟨fun x => ?_, fun o1 o2 x h1 h2 h3 h4 => ?_, fun x hx => .inr hx, fun x hx => Nat.lt_of_lt_of_le (h.objs.old x (hav x hx)) hk.size⟩
    · by_cases e : x = o
      · subst e
        exact hor.later (Keep.refl None w') (fun y _ hy => hav y hy) (fun _ h => h.elim) (.inl rfl) (fun _ => rfl) (fun y h1 h2 => ⟨fun h => h.elim, Nat.lt_of_lt_of_le (own_lt h ⟨x, ha, h2⟩) hk.size⟩) (fun y _ => Later.refl _ _ y)
      · exact (h.objs.each x).later hk (fun y _ hy => hav y hy) hM (.inl (upd_other _ _ e)) (fun _ => rfl)
          (fun y h1 h2 => ⟨fun e' => e (h.objs.apart x o b h1 ha (e' ▸ h2) hb), own_lt h ⟨x, h1, h2⟩⟩) (fun y _ => hlat y)
    · have k1 : (S.ob o1).alive = true := by
        by_cases e : o1 = o
        · subst e; exact ha
        · rwa [upd_other _ _ e] at h1
      have k2 : (S.ob o2).alive = true := by
        by_cases e : o2 = o
        · subst e; exact ha
        · rwa [upd_other _ _ e] at h2
      exact h.objs.apart o1 o2 x k1 k2 h3 h4
  · refine h.keep.trans hk (fun _ h => h) (fun x hx e => ?_)
    subst e
    rcases h.mine x ⟨o, ha, hb⟩ with h1 | h1
    · exact h1
    · omega
  · rw [hob]; exact fun x hx => h.mine x (hown x hx)
  · refine ⟨rfl, fun _ _ => rfl, by simpa [St.setOb] using hn', fun i hi => ?_, fun i hi => by simp [St.setOb, hi], fun i hi => by rw [hob]; exact hlat i⟩
    rw [hob]
    by_cases e : i = o
    · subst e; exact .inr (by simp [St.setOb])
    · exact .inl (upd_other _ _ e)
/-- an object is used up, another one takes its place (in its block, or in a new one) -/
theorem SR.consume (h : SR c S μ a w) {o al : Nat} {nb : OB} {mv : Value} {w' : World} {d : Option Tmp} {pv : PV} {v : Value} (ha : (S.ob o).alive = true) (hf : Fresh S al) (hn : nb.alive = true)
    (hk : Keep (fun x => blkOf (μ o) = some x) w w') (hb1 : ∀ x, blkOf mv = some x → x < w'.heap.size ∧ (blkOf (μ o) = some x ∨ w.heap.size ≤ x))
    (hor : OR w' (addA (av c S.ob μ) mv) (upd (upd S.ob o .dead) al nb) (upd μ al mv) al) (hv : VR w' (addA (av c S.ob μ) mv) (upd (upd S.ob o .dead) al nb) (upd μ al mv) pv v) :
    ∃ μ', SR c (((S.setOb o .dead).new al nb).put d pv) μ' (a.put d v) w' ∧ (∀ n ds, (∀ t, d = some t → t ∈ ds) → n ≤ al → n ≤ S.objs.length → Ag n ds S μ (((S.setOb o .dead).new al nb).put d pv) μ') := by
  have hob : (((S.setOb o .dead).new al nb).put d pv).ob = upd (upd S.ob o .dead) al nb := by rw [put_ob, ob_new, ob_setOb S o .dead ha]
  have hne : o ≠ al := fun e => by
    have := hf.dead
    rw [← e] at this
    rw [this] at ha
    cases ha
  have howx : ∀ x, own (upd (upd S.ob o .dead) al nb) (upd μ al mv) x → (∃ o', o' ≠ o ∧ (S.ob o').alive = true ∧ blkOf (μ o') = some x) ∨ blkOf mv = some x := by
    rintro x ⟨o', h1, h2⟩
    by_cases e : o' = al
    · subst e; rw [upd_same] at h2; exact .inr h2
    · rw [upd_other _ _ e] at h1 h2
      by_cases e' : o' = o
      · subst e'; rw [upd_same] at h1; cases h1
      · rw [upd_other _ _ e'] at h1; exact .inl ⟨o', e', h1, h2⟩
  have hav : ∀ x, av c (upd (upd S.ob o .dead) al nb) (upd μ al mv) x → addA (av c S.ob μ) mv x := by
    rintro x (hx | hx)
    · exact .inl (.inl hx)
    · rcases howx x hx with ⟨o', _, h1, h2⟩ | hx
      · exact .inl (.inr ⟨o', h1, h2⟩)
      · exact .inr hx
  have hav0 : ∀ x, x < w.heap.size → av c (upd (upd S.ob o .dead) al nb) (upd μ al mv) x → av c S.ob μ x := fun x hlt hx => by
    rcases hav x hx with hx | hx
    · exact hx
    · rcases (hb1 x hx).2 with h1 | h1
      · exact .inr ⟨o, ha, h1⟩
      · omega
  have hM : ∀ x, blkOf (μ o) = some x → av c S.ob μ x := fun x hx => .inr ⟨o, ha, hx⟩
  have hlt : ∀ x, x ≠ al → Later S.ob μ (upd (upd S.ob o .dead) al nb) (upd μ al mv) x := fun x hx => by
    unfold Later
    rw [upd_other _ _ hx, upd_other _ _ hx]
    by_cases e : x = o
    · subst e; rw [upd_same]; trivial
    · rw [upd_other _ _ e]
      cases hb : S.ob x <;> simp
  refine ⟨upd μ al mv, ⟨by rw [put_defers]; exact h.defers, ?_, ?_, ?_, ?_⟩, fun n ds hd hn' ho => ?_⟩
  · rw [hob]
    refine Slots.put (S := (S.setOb o .dead).new al nb) (h.slots.later hk hav0 hM (fun x hx => hlt x (fun e => hf.slots (e ▸ hx)))) rfl ?_
    exact VR.later (Keep.refl None w') (fun x _ hx => hav x hx) (fun _ h => h.elim) (fun o _ => Later.refl _ _ o) hv
  · rw [hob]
    refine ⟨fun x => ?_, fun o1 o2 x h1 h2 h3 h4 => ?_, fun x hx => .inr hx, fun x hx => ?_⟩
    · by_cases e : x = al
      · subst e
        exact hor.later (Keep.refl None w') (fun y _ hy => hav y hy) (fun _ h => h.elim) (.inl rfl) (fun _ => rfl) (fun y h1 h2 => ⟨fun h => h.elim, by rw [upd_same] at h2; exact (hb1 y h2).1⟩) (fun y _ => Later.refl _ _ y)
      · by_cases e' : x = o
        · subst e'
          unfold OR
          rw [upd_other _ _ e, upd_same]
          trivial
        · exact (h.objs.each x).later hk hav0 hM (.inl (by rw [upd_other _ _ e, upd_other _ _ e'])) (fun _ => upd_other _ _ e)
            (fun y h1 h2 => ⟨fun h3 => e' (h.objs.apart x o y h1 ha h2 h3), own_lt h ⟨x, h1, h2⟩⟩) (fun y hy => hlt y (fun e => hf.objs x (e ▸ hy)))
    · have clash : ∀ o', o' ≠ al → ((upd (upd S.ob o .dead) al nb) o').alive = true → blkOf ((upd μ al mv) o') = some x → blkOf mv = some x → False := fun o' e k1 k2 k3 => by
        rw [upd_other _ _ e] at k1 k2
        by_cases e' : o' = o
        · subst e'; rw [upd_same] at k1; cases k1
        · rw [upd_other _ _ e'] at k1
          rcases (hb1 x k3).2 with h5 | h5
          · exact e' (h.objs.apart o' o x k1 ha k2 h5)
          · have := own_lt h ⟨o', k1, k2⟩; omega
      by_cases e1 : o1 = al <;> by_cases e2 : o2 = al
      · rw [e1, e2]
      · subst e1; rw [upd_same] at h3; exact (clash o2 e2 h2 h4 h3).elim
      · subst e2; rw [upd_same] at h4; exact (clash o1 e1 h1 h3 h4).elim
      · rw [upd_other _ _ e1] at h1 h3
        rw [upd_other _ _ e2] at h2 h4
        have k1 : o1 ≠ o := fun e => by subst e; rw [upd_same] at h1; cases h1
        have k2 : o2 ≠ o := fun e => by subst e; rw [upd_same] at h2; cases h2
        rw [upd_other _ _ k1] at h1
        rw [upd_other _ _ k2] at h2
        exact h.objs.apart o1 o2 x h1 h2 h3 h4
    · rcases hav x hx with hx | hx
      · exact Nat.lt_of_lt_of_le (h.objs.old x hx) hk.size
      · exact (hb1 x hx).1
  · refine h.keep.trans hk (fun _ h => h) (fun x hx e => ?_)
    rcases h.mine x ⟨o, ha, e⟩ with h1 | h1
    · exact h1
    · omega
  · rw [hob]
    intro x hx
    rcases howx x hx with ⟨o', _, h1, h2⟩ | hx
    · exact h.mine x ⟨o', h1, h2⟩
    · rcases (hb1 x hx).2 with h1 | h1
      · exact h.mine x ⟨o, ha, h1⟩
      · exact .inr (Nat.le_trans h.keep.size h1)
  · refine ⟨by rw [put_len]; rfl, fun t ht => put_slots _ _ _ _ (fun e => ht (hd t e)), ?_, fun i hi => ?_, fun i hi => by rw [put_touched]; simp [St.new, St.setOb, hi], fun i hi => ?_⟩
    · rw [put_objs]; simp [St.new, St.setOb]; omega
    · rw [hob, upd_other _ _ (by omega)]
      by_cases e : i = o
      · subst e; exact .inr (by rw [put_touched]; simp [St.new, St.setOb])
      · exact .inl (upd_other _ _ e)
    · rw [hob]; exact hlt i (by omega)

theorem mem_iff {n : Nat} : ∀ {l : List Nat}, mem n l = true ↔ n ∈ l
  | [] => by simp [mem]
  | m :: l => by simp [mem, mem_iff (l := l)]
theorem noOid_iff {n : Nat} : ∀ {l : List OB}, noOid n l = true ↔ ∀ b ∈ l, n ∉ b.oids
  | [] => by simp [noOid]
  | b :: l => by
    simp only [noOid, Bool.and_eq_true, noOid_iff (l := l), List.mem_cons, forall_eq_or_imp, Bool.not_eq_true', ← Bool.not_eq_true, mem_iff]
theorem fresh_iff {al : Nat} (h : S.fresh al = true) : Fresh S al := by
  simp only [St.fresh, Bool.and_eq_true, Bool.not_eq_true', ← Bool.not_eq_true, mem_iff, noOid_iff] at h
  obtain ⟨h1, h2, h3⟩ := h
  refine ⟨?_, h2, fun o ho => ?_⟩
  · cases hb : S.ob al <;> simp_all [OB.alive]
  · simp only [St.ob, List.getD] at ho
    cases hx : S.objs[o]? with
    | none => simp [hx, OB.oids] at ho
    | some b =>
      simp only [hx, Option.getD_some] at ho
      exact h3 b (List.mem_of_getElem? hx) ho
variable {P : Program} {E : Env} {o : Oper} {al n : Nat} {ds : List Nat} {ρ : Type} {r : ρ} {K : St → Option ρ} {next : Act → World → Prop} {Q : Exit → Act → World → Prop}
theorem wp_value {v : Value} {w' : World} (h : (execOp a.eval o).run P w = .ok (.value v) w') (hn : next (a.put o.dst v) w') : o.wp P a w next Q := by
  simp only [Oper.wp, h, Oper.upon_value]; exact hn
theorem wp_skip' {w' : World} (h : (execOp a.eval o).run P w = .ok .skip w') (hn : next (a.put o.dst Go.undef) w') : o.wp P a w next Q := by
  simp only [Oper.wp, h, Oper.upon_skip]; exact hn
/-- a quiet operation, in the state -/
theorem quiet_step (hE : EnvTy P E) (hsr : SR c S μ a w) (h : evP E o S al (fun v b => addK S al o.dst v b K) = some r) (hd : ∀ t, o.dst = some t → t ∈ ds) (hn : n ≤ al) (hn' : n ≤ S.objs.length)
    (hnext : ∀ S' μ' a' w', K S' = some r → SR c S' μ' a' w' → Ag n ds S μ S' μ' → next a' w') : o.wp P a w next Q := by
  have hfr : ∀ pv b, addK S al o.dst pv (some b) K = some r → Fresh S al := fun pv b h => fresh_iff (cond_some h).1
  obtain ⟨pv, nb, hk, v, w', hrun, hkeep, hv⟩ := evP_sound hE hsr.slots hsr.objs hfr h
  refine wp_value hrun ?_
  cases nb with
  | none =>
    obtain ⟨μ', h1, h2⟩ := hsr.add (d := o.dst) (al := al) (nb := none) hkeep (fun b hb => by cases hb) hv
    exact hnext _ μ' _ _ hk h1 (h2 n ds hd hn hn')
  | some b =>
    obtain ⟨μ', h1, h2⟩ := hsr.add (d := o.dst) (al := al) (nb := some b) hkeep (fun b' _ => hfr pv b hk) hv
    exact hnext _ μ' _ _ (cond_some hk).2 h1 (h2 n ds hd hn hn')
theorem splice_eq (cs : Array Value) (off : Nat) (cv : List Value) : (cs.toList.take off ++ cv ++ cs.toList.drop (off + cv.length)).toArray = (splice cs.toList off cv).toArray := by
  simp [splice]
theorem run_storeVar' {t : TypeId} {d : TD} (ht : TDOK P t d) {b off : Nat} {cs : Array Value} {tt : TypeId} {v : Value} (hh : w.heap[b]? = some (.cells cs tt (0, 0))) (hl : v.cells.size = d.cells) (hb : off + d.cells ≤ cs.size)
    (hp : ∀ x ∈ v.cells.toList, x.oneCell' = true) : (storeVar t ⟨b, off, none⟩ v).run P w = .ok () (w.setRow b (splice cs.toList off v.cells.toList).toArray) := by
  obtain ⟨i, hi, hs, _⟩ := ht.info
  have h2 := run_sizeOf' (w := w) (n := d.cells) ⟨i, hi, hs⟩
  unfold storeVar
  simp only [Sem.run_bind, h2, Result.andThen]
  rw [if_neg (by omega)]
  have := run_storeCells_at (P := P) b off tt v.cells.toList 0 cs w hh (by simp; omega) hp
  rw [this]
  simp only [Nat.add_zero, splice_eq]
theorem store_sound (hE : EnvTy P E) (hsr : SR c S μ a w) {t : TypeId} {x y : Operand} (hop : o.op = .store t x y) (h : evF E o S al K = some r) (hd : ∀ t, o.dst = some t → t ∈ ds) (hn' : n ≤ S.objs.length)
    (hnext : ∀ S' μ' a' w', K S' = some r → SR c S' μ' a' w' → Ag n ds S μ S' μ' → next a' w') : o.wp P a w next Q := by
  simp only [evF, hop] at h
  have hx := hsr.slots.opd x
  have hy := hsr.slots.opd y
  split at h
  · rename_i d hd0
    have hdd := hE _ _ hd0
    have hfin : ∀ (ob b off : Nat) (cs : Array Value) (tt : TypeId) (nb : OB), (S.ob ob).alive = true → blkOf (μ ob) = some b → a.eval x = .pointer (some ⟨b, off, none⟩) → w.heap[b]? = some (.cells cs tt (0, 0)) →
        (a.eval y).cells.size = d.cells → off + d.cells ≤ cs.size → (opd S y).plain = true → Later S.ob μ (upd S.ob ob nb) μ ob → nb.alive = true →
        OR (w.setRow b (splice cs.toList off (a.eval y).cells.toList).toArray) (av c S.ob μ) (upd S.ob ob nb) μ ob → K ((S.setOb ob nb).put o.dst .undef) = some r → o.wp P a w next Q := by
      intro ob b off cs tt nb ha hb he hh hl hbd hpl hla hna hor hk
      have hpc : ∀ z ∈ (a.eval y).cells.toList, z.oneCell' = true := by
        rcases hy with hy | hy
        · rw [plain_isAny hpl] at hy; cases hy
        · exact CR.plain _ _ hy.1 hpl
      obtain ⟨h1, h2⟩ := hsr.write ha hb (Keep.setRow w b _) hla hna hor
      refine wp_skip' ?_ (hnext _ μ _ _ hk ⟨by rw [put_defers]; exact h1.defers, ?_, ?_, h1.keep, ?_⟩ ?_)
      · simp only [execOp, hop, he, Instr.storeAt, Instr.sureAddr, Sem.run_bind, Sem.run_pure, Result.andThen, run_storeVar' hdd hh hl hbd hpc]
      · rw [put_ob]; exact Slots.put h1.slots rfl .mk_undef
      · rw [put_ob]; exact h1.objs
      · rw [put_ob]; exact h1.mine
      · refine (h2 n [] hn').trans (ds' := ds) (ds'' := ds) ?_ (fun t ht => by cases ht) (fun _ h => h)
        exact ⟨put_len _ _ _, fun t ht => put_slots _ _ _ _ (fun e => ht (hd t e)), by rw [put_objs]; simpa [St.setOb] using hn', fun i _ => .inl (by rw [put_ob]), fun i hi => by rw [put_touched]; exact hi, fun i _ => by rw [put_ob]; exact Later.refl _ _ i⟩
    split at h
    · rename_i ob p hx0
      rw [hx0] at hx
      split at h
      · rename_i e v hob
        obtain ⟨hcnd, hk⟩ := cond_some h
        simp only [Bool.and_eq_true] at hcnd
        obtain ⟨hoff, hfit, hpl⟩ := hcnd
        obtain ⟨b, off, d', hm, hofs, ea⟩ := hx.ptr hob
        rw [hofs] at hoff
        simp only [decide_eq_true_eq] at hoff
        subst hoff
        have hor := hsr.objs.each ob
        simp only [OR, hob] at hor
        obtain ⟨b', cs, tt, hm', hheap, hfits, hcr⟩ := hor
        rw [hm] at hm'
        simp only [Value.pointer.injEq, Option.some.injEq, Addr.mk.injEq] at hm'
        obtain ⟨rfl, _, _⟩ := hm'
        obtain ⟨_, _, h3, h4⟩ := TD.path_sound _ _ _ _ _ _ hfits hcr hofs
        have hl := TD.fits_len _ _ _ hfits hcr
        have hyc : CR w (av c S.ob μ) S.ob μ (opd S y) (a.eval y).cells.toList := by
          rcases hy with hy | hy
          · rw [plain_isAny hpl] at hy; cases hy
          · exact hy.1
        have hly := TD.fits_len _ _ _ hfit hyc
        obtain ⟨h5, h6⟩ := h4 _ _ hfit hyc
        have hla : Later S.ob μ (upd S.ob ob (.box e (setPath v p (opd S y)))) μ ob := by
          unfold Later; rw [upd_same]; exact ⟨⟨v, hob⟩, rfl⟩
        refine hfin ob b off cs tt _ (by rw [hob]; rfl) (by rw [hm]; rfl) ea hheap (by simpa using hly) (by simp at hl; omega) hpl hla rfl ?_ hk
        unfold OR
        rw [upd_same]
        refine ⟨b, _, tt, hm, setRow_at hheap, h6, ?_⟩
        have hbk : av c S.ob μ b := .inr ⟨ob, by rw [hob]; rfl, by rw [hm]; rfl⟩
        refine CR.later (Keep.setRow w b _) (fun _ _ h => h) (fun x e => by subst e; exact hbk) _ (fun z hz => ?_) _ (by simpa using h5)
        by_cases ez : z = ob
        · subst ez; exact hla
        · unfold Later
          rw [upd_other _ _ ez]
          cases hb : S.ob z <;> simp
      · cases h
    · rename_i ob i p hx0
      rw [hx0] at hx
      split at h
      · rename_i T xs hob
        obtain ⟨hcnd, h⟩ := cond_some h
        simp only [Bool.and_eq_true] at hcnd
        obtain ⟨hoff, hin⟩ := hcnd
        obtain ⟨z, hz, h⟩ := optK_some h
        obtain ⟨hcnd, hk⟩ := cond_some h
        simp only [Bool.and_eq_true] at hcnd
        obtain ⟨hfit, hpl⟩ := hcnd
        obtain ⟨h0, h1⟩ := index_ok (a0 := ⟨0, 0, none⟩) hin
        obtain ⟨b, off, n0, c0, o2, T', hm, hofs, _, ea⟩ := hx.elo hob
        rw [hofs] at hoff
        simp only [decide_eq_true_eq] at hoff
        subst hoff
        have hor := hsr.objs.each ob
        simp only [OR, hob] at hor
        rcases hor with ⟨hl0, _⟩ | ⟨b', off', c', cs, tt, hm', hheap, hlc, hc63, hsz, hel⟩
        · omega
        rw [hm] at hm'
        simp only [Value.slice.injEq, Option.some.injEq, Addr.mk.injEq] at hm'
        obtain ⟨⟨rfl, rfl, _⟩, rfl, rfl⟩ := hm'
        have hlt : i.toNat < List.length xs := by omega
        have hg : nth (α := T.den) xs i.toNat = some (rd T.dflt xs i) := by
          simp [nth, rd, List.getD, List.getElem?_eq_getElem hlt]
        obtain ⟨cx, hdr, hcx⟩ := hel _ _ hg
        have hyc : CR w (av c S.ob μ) S.ob μ (opd S y) (a.eval y).cells.toList := by
          rcases hy with hy | hy
          · rw [plain_isAny hpl] at hy; cases hy
          · exact hy.1
        have hly := TD.fits_len _ _ _ hfit hyc
        obtain ⟨o3, T3, hoff', h3, h4, h5⟩ := setT_sound _ _ _ _ _ _ _ hz hdr hyc
        rw [hofs] at hoff'
        simp only [Option.some.injEq, Prod.mk.injEq] at hoff'
        obtain ⟨rfl, rfl⟩ := hoff'
        have hcl := DR.len _ _ _ hdr
        have hrow : off + i.toNat * T.cells + T.cells ≤ cs.size := by
          have : (i.toNat + 1) * T.cells ≤ c0 * T.cells := Nat.mul_le_mul_right _ (by omega)
          rw [Nat.succ_mul] at this
          omega
        have hla : Later S.ob μ (upd S.ob ob (.row T (xs.set i.toNat z))) μ ob := by
          unfold Later; rw [upd_same]; exact ⟨⟨xs, hob⟩, rfl⟩
        refine hfin ob b (off + i.toNat * T.cells + o2) cs tt _ (by rw [hob]; rfl) (by rw [hm]; rfl) ea hheap (by simpa using hly) (by simp only [TD.cells]; omega) hpl hla rfl ?_ hk
        unfold OR
        rw [upd_same]
        have hbk : av c S.ob μ b := .inr ⟨ob, by rw [hob]; rfl, by rw [hm]; rfl⟩
        have hkp : Keep (· = b) w (w.setRow b (splice cs.toList (off + i.toNat * T.cells + o2) (a.eval y).cells.toList).toArray) := Keep.setRow w b _
        have hspl : off + i.toNat * T.cells + o2 + (a.eval y).cells.toList.length ≤ cs.toList.length := by
          have e1 : cs.toList.length = cs.size := by simp
          omega
        refine .inr ⟨b, off, c0, _, tt, by rw [hm, List.length_set], setRow_at hheap, by rw [List.length_set]; exact hlc, hc63, by simp only [List.size_toArray, splice_len hspl, Array.length_toList]; exact hsz, fun k u hk' => ?_⟩
        simp only [nth, List.getElem?_set] at hk'
        by_cases ek : i.toNat = k
        · subst ek
          rw [if_pos rfl] at hk'
          split at hk'
          · simp only [Option.some.injEq] at hk'
            subst hk'
            refine ⟨_, DR.keep hkp (fun _ _ h => h) (fun x e => by subst e; exact hbk) T _ _ h5, fun j v hj => ?_⟩
            have hjl := (List.getElem?_eq_some_iff.1 hj).1
            rw [splice_len (by omega), hcl] at hjl
            rw [getElem?_splice (by omega)] at hj
            simp only [List.getElem?_toArray]
            rw [getElem?_splice hspl]
            by_cases hin2 : o2 ≤ j ∧ j < o2 + (a.eval y).cells.toList.length
            · rw [if_pos hin2] at hj
              rw [if_pos ⟨by omega, by omega⟩]
              rw [show off + i.toNat * T.cells + j - (off + i.toNat * T.cells + o2) = j - o2 from by omega]
              exact hj
            · rw [if_neg hin2] at hj
              rw [if_neg (by omega)]
              have := hcx j v hj
              simpa using this
          · rename_i hge
            exact absurd hlt hge
        · rw [if_neg ek] at hk'
          obtain ⟨cu, h6, h7⟩ := hel k u hk'
          refine ⟨cu, DR.keep hkp (fun _ _ h => h) (fun x e => by subst e; exact hbk) T _ _ h6, fun j v hj => ?_⟩
          have hjl := (List.getElem?_eq_some_iff.1 hj).1
          rw [DR.len _ _ _ h6] at hjl
          simp only [List.getElem?_toArray]
          rw [getElem?_splice hspl, if_neg ?_]
          · have := h7 j v hj
            simpa using this
          · rintro ⟨g1, g2⟩
            rcases Nat.lt_or_ge k i.toNat with hki | hki
            · have : (k + 1) * T.cells ≤ i.toNat * T.cells := Nat.mul_le_mul_right _ hki
              rw [Nat.succ_mul] at this
              omega
            · have : (i.toNat + 1) * T.cells ≤ k * T.cells := Nat.mul_le_mul_right _ (by omega)
              rw [Nat.succ_mul] at this
              omega
      · cases h
    · cases h
  · cases h
end
end Go.Vm
