/- Vm, part 11: states and worlds; what is added. Own work. -/
import Derived.Test.YtfiembgemhonlaaVmEvR
set_option linter.unusedVariables false
set_option linter.unusedSimpArgs false
namespace Go.Vm
open Go.RowKit

/-- What a function's call begins with: the world; the blocks that its data keep out of; those that it may change. -/
structure Cx where
  w0 : World
  A0 : Nat → Prop
  M0 : Nat → Prop
  old : ∀ b, A0 b → b < w0.heap.size
  sub : ∀ b, M0 b → A0 b
def av (c : Cx) (ob : Nat → OB) (μ : Nat → Value) (b : Nat) : Prop := c.A0 b ∨ own ob μ b
structure SR (c : Cx) (S : St) (μ : Nat → Value) (a : Act) (w : World) : Prop where
  defers : a.defers = []
  slots : Slots w (av c S.ob μ) S.ob μ S.slots a
  objs : Objs w (av c S.ob μ) S.ob μ
  keep : Keep c.M0 c.w0 w
  mine : ∀ b, own S.ob μ b → c.M0 b ∨ c.w0.heap.size ≤ b
/-- From S to S' only variables of ds were written, and of the first n objects only such as are told. -/
structure Ag (n : Nat) (ds : List Nat) (S : St) (μ : Nat → Value) (S' : St) (μ' : Nat → Value) : Prop where
  len : S'.slots.length = S.slots.length
  slot : ∀ t, t ∉ ds → S'.slots[t]? = S.slots[t]?
  olen : n ≤ S'.objs.length
  ob : ∀ i, i < n → S'.ob i = S.ob i ∨ i ∈ S'.touched
  touched : ∀ i, i ∈ S.touched → i ∈ S'.touched
  later : ∀ i, i < n → Later S.ob μ S'.ob μ' i
theorem Later.trans {ob ob' ob'' : Nat → OB} {μ μ' μ'' : Nat → Value} {o : Nat} (h : Later ob μ ob' μ' o) (k : Later ob' μ' ob'' μ'' o) : Later ob μ ob'' μ'' o := by
  unfold Later at *
  cases h2 : ob'' o with
  | dead => trivial
  | box d v =>
    simp only [h2] at k
    obtain ⟨⟨v', h1⟩, e⟩ := k
    simp only [h1] at h
    exact ⟨h.1, e.trans h.2⟩
  | row T xs =>
    simp only [h2] at k
    obtain ⟨⟨v', h1⟩, e⟩ := k
    simp only [h1] at h
    exact ⟨h.1, e.trans h.2⟩
theorem Ag.refl {n : Nat} {S : St} {μ : Nat → Value} (ds : List Nat) (h : n ≤ S.objs.length) : Ag n ds S μ S μ :=
  ⟨rfl, fun _ _ => rfl, h, fun _ _ => .inl rfl, fun _ h => h, fun i _ => Later.refl _ _ i⟩
theorem Ag.trans {n : Nat} {ds ds' ds'' : List Nat} {S S' S'' : St} {μ μ' μ'' : Nat → Value} (h : Ag n ds S μ S' μ') (k : Ag n ds' S' μ' S'' μ'') (h1 : ∀ t, t ∈ ds → t ∈ ds'') (h2 : ∀ t, t ∈ ds' → t ∈ ds'') : Ag n ds'' S μ S'' μ'' :=
  ⟨k.len.trans h.len, fun t ht => (k.slot t (fun hm => ht (h2 t hm))).trans (h.slot t (fun hm => ht (h1 t hm))), k.olen,
    fun i hi => by
      rcases k.ob i hi with e | e
      · rcases h.ob i hi with e' | e'
        · exact .inl (e.trans e')
        · exact .inr (k.touched i e')
      · exact .inr e,
    fun i hi => k.touched i (h.touched i hi), fun i hi => (h.later i hi).trans (k.later i hi)⟩
theorem Ag.mono {n : Nat} {ds ds' : List Nat} {S S' : St} {μ μ' : Nat → Value} (h : Ag n ds S μ S' μ') (h1 : ∀ t, t ∈ ds → t ∈ ds') : Ag n ds' S μ S' μ' :=
  ⟨h.len, fun t ht => h.slot t (fun hm => ht (h1 t hm)), h.olen, h.ob, h.touched, h.later⟩

/-! ### Objects in lists -/
theorem ob_new (S : St) (al : Nat) (b : OB) : (S.new al b).ob = upd S.ob al b := by
  funext o
  simp only [St.ob, St.new, upd, List.getD, List.getElem?_set]
  by_cases h : o = al
  · subst h
    simp [show o < S.objs.length + (o + 1 - S.objs.length) from by omega]
  · rw [if_neg (fun e => h e.symm), if_neg h]
    rw [List.getElem?_append]
    split
    · rfl
    · rename_i hge
      have : S.objs[o]? = none := by simp; omega
      rw [this, List.getElem?_replicate]
      split <;> rfl
theorem ob_setOb (S : St) (o : Nat) (b : OB) (h : (S.ob o).alive = true) : (S.setOb o b).ob = upd S.ob o b := by
  funext x
  simp only [St.ob, St.setOb, upd, List.getD, List.getElem?_set]
  by_cases e : x = o
  · subst e
    have hl : x < S.objs.length := by
      rcases Nat.lt_or_ge x S.objs.length with h1 | h1
      · exact h1
      · have : S.objs[x]? = none := by simp; omega
        simp [St.ob, List.getD, this, OB.alive] at h
    simp [hl]
  · rw [if_neg (fun h => e h.symm), if_neg e]
theorem put_slots (S : St) (d : Option Tmp) (v : PV) (t : Nat) (h : d ≠ some t) : (S.put d v).slots[t]? = S.slots[t]? := by
  cases d with
  | none => rfl
  | some d => simp only [St.put, List.getElem?_set]; rw [if_neg (fun e => h (by rw [e]))]
theorem put_ob (S : St) (d : Option Tmp) (v : PV) : (S.put d v).ob = S.ob := by cases d <;> rfl
theorem put_len (S : St) (d : Option Tmp) (v : PV) : (S.put d v).slots.length = S.slots.length := by cases d <;> simp [St.put]
theorem put_objs (S : St) (d : Option Tmp) (v : PV) : (S.put d v).objs = S.objs := by cases d <;> rfl
theorem put_touched (S : St) (d : Option Tmp) (v : PV) : (S.put d v).touched = S.touched := by cases d <;> rfl
/-- a variable is written -/
theorem Slots.put {w : World} {A : Nat → Prop} {ob : Nat → OB} {μ : Nat → Value} {l : List PV} {a : Act} (h : Slots w A ob μ l a) {S : St} (hS : S.slots = l) {d : Option Tmp} {v : PV} {x : Value} (hv : VR w A ob μ v x) : Slots w A ob μ (S.put d v).slots (a.put d x) := by
  subst hS
  cases d with
  | none => exact h
  | some t =>
    refine ⟨by simp [St.put, Act.put, h.size], fun i u hi => ?_⟩
    simp only [St.put, List.getElem?_set] at hi
    simp only [Act.put]
    by_cases e : t = i
    · subst e
      rw [if_pos rfl] at hi
      split at hi
      · rename_i hlt
        simp only [Option.some.injEq] at hi
        subst hi
        have : t < a.tmps.size := by rw [h.size]; exact hlt
        simpa [Array.getD, this] using hv
      · cases hi
    · rw [if_neg e] at hi
      have := h.each i u hi
      rwa [show (a.tmps.setIfInBounds t x).getD i Go.undef = a.tmps.getD i Go.undef from by rw [Array.getD_eq_getD_getElem?, Array.getD_eq_getD_getElem?, Array.getElem?_setIfInBounds_ne e]]
theorem put_defers (a : Act) (d : Option Tmp) (x : Value) : (a.put d x).defers = a.defers := by cases d <;> rfl
theorem Slots.later {w w' : World} {A A' M : Nat → Prop} {ob ob' : Nat → OB} {μ μ' : Nat → Value} {l : List PV} {a : Act} (h : Slots w A ob μ l a) (hk : Keep M w w') (hA : ∀ b, b < w.heap.size → A' b → A b) (hM : ∀ b, M b → A b) (hl : ∀ o ∈ PV.oidsL l, Later ob μ ob' μ' o) : Slots w' A' ob' μ' l a :=
  ⟨h.size, fun t v ht => VR.later hk hA hM (fun o ho => hl o (oidsL_mem (List.mem_of_getElem? ht) ho)) (h.each t v ht)⟩
/-- an object in a later world -/
theorem OR.later {w w' : World} {A A' M : Nat → Prop} {ob ob' : Nat → OB} {μ μ' : Nat → Value} {o : Nat} (h : OR w A ob μ o) (hk : Keep M w w') (hA : ∀ b, b < w.heap.size → A' b → A b) (hM : ∀ b, M b → A b)
    (he : ob' o = ob o ∨ ob' o = .dead) (hm : ob' o = ob o → μ' o = μ o) (hn : ∀ b, (ob o).alive = true → blkOf (μ o) = some b → ¬ M b ∧ b < w.heap.size) (hl : ∀ x ∈ (ob o).oids, Later ob μ ob' μ' x) : OR w' A' ob' μ' o := by
  rcases he with he | he
  · have hm' := hm he
    unfold OR at h ⊢
    rw [he, hm']
    cases hb : ob o with
    | dead => trivial
    | box d v =>
      simp only [hb] at h ⊢
      obtain ⟨b, cs, t, e, hh, hf, hc⟩ := h
      obtain ⟨h1, h2⟩ := hn b (by rw [hb]; rfl) (by rw [e]; rfl)
      exact ⟨b, cs, t, e, by rw [hk.block b h2 h1]; exact hh, hf, CR.later hk hA hM v (fun x hx => hl x (by rw [hb]; exact hx)) _ hc⟩
    | row T xs =>
      simp only [hb] at h ⊢
      rcases h with h | ⟨b, off, c, cs, t, e, hh, h3, h4, h5, h6⟩
      · exact .inl h
      · obtain ⟨h1, h2⟩ := hn b (by rw [hb]; rfl) (by rw [e]; rfl)
        refine .inr ⟨b, off, c, cs, t, e, by rw [hk.block b h2 h1]; exact hh, h3, h4, h5, fun i x hi => ?_⟩
        obtain ⟨cx, h7, h8⟩ := h6 i x hi
        exact ⟨cx, DR.keep hk hA hM T x cx h7, h8⟩
  · unfold OR
    rw [he]
    trivial
/-! ### What an operation adds -/
section
variable {c : Cx} {S : St} {μ : Nat → Value} {a : Act} {w : World}
theorem own_lt (h : SR c S μ a w) {b : Nat} (hb : own S.ob μ b) : b < w.heap.size := h.objs.old b (.inr hb)
theorem av_lt (h : SR c S μ a w) {b : Nat} (hb : av c S.ob μ b) : b < w.heap.size := h.objs.old b hb
theorem alive_not_dead {b : OB} (h : b.alive = true) : b ≠ .dead := by intro e; subst e; cases h
/-- nothing that was there changes, one value comes in -/
theorem SR.add' (h : SR c S μ a w) {al : Nat} {w' : World} {d : Option Tmp} {pv : PV} {v : Value} {nb : Option OB} (hk : Keep None w w')
    (hf : ∀ b, nb = some b → Fresh S al)
    (hv : match nb with
      | none => VR w' (av c S.ob μ) S.ob μ pv v
      | some b => ∃ mv, (∀ x, blkOf mv = some x → w.heap.size ≤ x ∧ x < w'.heap.size) ∧ OR w' (addA (av c S.ob μ) mv) (upd S.ob al b) (upd μ al mv) al ∧ VR w' (addA (av c S.ob μ) mv) (upd S.ob al b) (upd μ al mv) pv v) :
    ∃ μ', SR c (S.add al d pv nb) μ' (a.put d v) w' ∧ (∀ n ds, (∀ t, d = some t → t ∈ ds) → n ≤ al → n ≤ S.objs.length → Ag n ds S μ (S.add al d pv nb) μ') ∧
      VR w' (av c (S.add al d pv nb).ob μ') (S.add al d pv nb).ob μ' pv v ∧ (∀ o, (nb ≠ none → o ≠ al) → Later S.ob μ (S.add al d pv nb).ob μ' o) ∧ (∀ x, own (S.add al d pv nb).ob μ' x → own S.ob μ x ∨ (w.heap.size ≤ x ∧ nb ≠ none)) := by
  cases nb with
  | none =>
    refine ⟨μ, ⟨by rw [put_defers]; exact h.defers, ?_, ?_, ?_, ?_⟩, fun n ds hd hn ho => ?_, by simpa only [St.add, put_ob] using hv, fun o _ => by simp only [St.add, put_ob]; exact Later.refl _ _ o, fun x hx => by simp only [St.add, put_ob] at hx; exact .inl hx⟩
    · simp only [St.add, put_ob]
      exact Slots.put (h.slots.later hk (fun _ _ h => h) (fun _ h => h.elim) (fun o _ => Later.refl _ _ o)) rfl hv
    · simp only [St.add, put_ob]
      exact ⟨fun o => (h.objs.each o).later hk (fun _ _ h => h) (fun _ h => h.elim) (.inl rfl) (fun _ => rfl) (fun b ha hb => ⟨fun h => h.elim, own_lt h ⟨o, ha, hb⟩⟩) (fun x _ => Later.refl _ _ x), h.objs.apart, h.objs.mine, fun b hb => Nat.lt_of_lt_of_le (h.objs.old b hb) hk.size⟩
    · exact h.keep.trans hk (fun _ h => h) (fun _ _ h => h.elim)
    · simp only [St.add, put_ob]; exact h.mine
    · simp only [St.add]
      exact ⟨put_len _ _ _, fun t ht => put_slots _ _ _ _ (fun e => ht (hd t e)), by rw [put_objs]; exact ho, fun i _ => .inl (by rw [put_ob]), fun i hi => by rw [put_touched]; exact hi, fun i _ => by rw [put_ob]; exact Later.refl _ _ i⟩
  | some b =>
    obtain ⟨mv, hb1, hor, hvr⟩ := hv
    have hfr := hf b rfl
    have hob : ((S.new al b).put d pv).ob = upd S.ob al b := by rw [put_ob, ob_new]
    have howx : ∀ x, own (upd S.ob al b) (upd μ al mv) x → own S.ob μ x ∨ blkOf mv = some x := by
      rintro x ⟨o, ha, hx⟩
      by_cases e : o = al
      · subst e; rw [upd_same] at hx; exact .inr hx
      · rw [upd_other _ _ e] at ha hx; exact .inl ⟨o, ha, hx⟩
    have hav : ∀ x, av c (upd S.ob al b) (upd μ al mv) x → addA (av c S.ob μ) mv x := by
      rintro x (hx | hx)
      · exact .inl (.inl hx)
      · rcases howx x hx with hx | hx
        · exact .inl (.inr hx)
        · exact .inr hx
    have hav0 : ∀ x, x < w.heap.size → av c (upd S.ob al b) (upd μ al mv) x → av c S.ob μ x := fun x hlt hx => by
      rcases hav x hx with hx | hx
      · exact hx
      · have := (hb1 x hx).1; omega
    have hlt : ∀ o, o ≠ al → Later S.ob μ (upd S.ob al b) (upd μ al mv) o := fun o ho => later_upd b mv ho
    refine ⟨upd μ al mv, ⟨by rw [put_defers]; exact h.defers, ?_, ?_, ?_, ?_⟩, fun n ds hd hn ho => ?_,
      by simp only [St.add, hob]; exact VR.later (Keep.refl None w') (fun x _ hx => hav x hx) (fun _ h => h.elim) (fun o _ => Later.refl _ _ o) hvr,
      fun o ho => by simp only [St.add, hob]; exact hlt o (ho (by simp)),
      fun x hx => by simp only [St.add, hob] at hx; exact (howx x hx).imp id fun h => ⟨(hb1 x h).1, by simp⟩⟩
    · simp only [St.add, hob]
      refine Slots.put (S := S.new al b) (h.slots.later hk hav0 (fun _ h => h.elim) (fun o ho => hlt o (fun e => hfr.slots (e ▸ ho)))) rfl ?_
      exact VR.later (Keep.refl None w') (fun x _ hx => hav x hx) (fun _ h => h.elim) (fun o _ => Later.refl _ _ o) hvr
    · simp only [St.add, hob]
      refine ⟨fun o => ?_, fun o o' x h1 h2 h3 h4 => ?_, fun x hx => .inr hx, fun x hx => ?_⟩
      · by_cases e : o = al
        · subst e
          exact hor.later (Keep.refl None w') (fun x _ hx => hav x hx) (fun _ h => h.elim) (.inl rfl) (fun _ => rfl) (fun x ha hx => ⟨fun h => h.elim, by rw [upd_same] at hx; exact (hb1 x hx).2⟩) (fun x _ => Later.refl _ _ x)
        · exact (h.objs.each o).later hk hav0 (fun _ h => h.elim) (.inl (upd_other _ _ e)) (fun _ => upd_other _ _ e) (fun x ha hx => ⟨fun h => h.elim, own_lt h ⟨o, ha, hx⟩⟩) (fun x hx => hlt x (fun e' => hfr.objs o (e' ▸ hx)))
      · by_cases e : o = al <;> by_cases e' : o' = al
        · rw [e, e']
        · subst e
          rw [upd_same] at h3
          rw [upd_other _ _ e'] at h2 h4
          have := own_lt h ⟨o', h2, h4⟩
          have := (hb1 x h3).1
          omega
        · subst e'
          rw [upd_same] at h4
          rw [upd_other _ _ e] at h1 h3
          have := own_lt h ⟨o, h1, h3⟩
          have := (hb1 x h4).1
          omega
        · rw [upd_other _ _ e] at h1 h3
          rw [upd_other _ _ e'] at h2 h4
          exact h.objs.apart o o' x h1 h2 h3 h4
      · rcases hav x hx with hx | hx
        · exact Nat.lt_of_lt_of_le (h.objs.old x hx) hk.size
        · exact (hb1 x hx).2
    · exact h.keep.trans hk (fun _ h => h) (fun _ _ h => h.elim)
    · simp only [St.add, hob]
      intro x hx
      rcases howx x hx with hx | hx
      · exact h.mine x hx
      · exact .inr (Nat.le_trans h.keep.size (hb1 x hx).1)
    · simp only [St.add]
      refine ⟨by rw [put_len]; rfl, fun t ht => put_slots _ _ _ _ (fun e => ht (hd t e)), ?_, fun i hi => ?_, fun i hi => by rw [put_touched]; exact hi, fun i hi => ?_⟩
      · rw [put_objs]; simp [St.new]; omega
      · rw [hob]; exact .inl (upd_other _ _ (by omega))
      · rw [hob]; exact hlt i (by omega)
theorem SR.add (h : SR c S μ a w) {al : Nat} {w' : World} {d : Option Tmp} {pv : PV} {v : Value} {nb : Option OB} (hk : Keep None w w')
    (hf : ∀ b, nb = some b → Fresh S al)
    (hv : match nb with
      | none => VR w' (av c S.ob μ) S.ob μ pv v
      | some b => ∃ mv, (∀ x, blkOf mv = some x → w.heap.size ≤ x ∧ x < w'.heap.size) ∧ OR w' (addA (av c S.ob μ) mv) (upd S.ob al b) (upd μ al mv) al ∧ VR w' (addA (av c S.ob μ) mv) (upd S.ob al b) (upd μ al mv) pv v) :
    ∃ μ', SR c (S.add al d pv nb) μ' (a.put d v) w' ∧ (∀ n ds, (∀ t, d = some t → t ∈ ds) → n ≤ al → n ≤ S.objs.length → Ag n ds S μ (S.add al d pv nb) μ') := by
  obtain ⟨μ', h1, h2, _⟩ := h.add' (d := d) (nb := nb) hk hf hv
  exact ⟨μ', h1, h2⟩
end
end Go.Vm
