/- Vm, part 8: 'evP' is right. Own work. -/
import Derived.Test.YtfiembgemhonlaaVmQuiet
set_option linter.unusedVariables false
set_option linter.unusedSimpArgs false
namespace Go.Vm
open Go.RowKit

/-- nothing leads to this object yet -/
structure Fresh (S : St) (al : Nat) : Prop where
  dead : S.ob al = .dead
  slots : al ∉ PV.oidsL S.slots
  objs : ∀ o, al ∉ (S.ob o).oids
theorem oidsL_mem {l : List PV} {v : PV} {o : Nat} (h : v ∈ l) (ho : o ∈ v.oids) : o ∈ PV.oidsL l := by
  induction l with
  | nil => cases h
  | cons x l ih =>
    simp only [PV.oidsL, List.mem_append]
    rcases List.mem_cons.1 h with rfl | h
    · exact .inl ho
    · exact .inr (ih h)
theorem opd_oids {S : St} {x : Operand} {o : Nat} (h : o ∈ (opd S x).oids) : o ∈ PV.oidsL S.slots := by
  cases x with
  | tmp t =>
    simp only [opd] at h
    cases ht : S.slots[t]? with
    | none => simp [List.getD, ht, PV.oids] at h
    | some v =>
      have : S.slots.getD t .undef = v := by simp [List.getD, ht]
      rw [this] at h
      exact oidsL_mem (List.mem_of_getElem? ht) h
  | const v =>
    simp only [opd] at h
    unfold ofConst at h
    split at h
    case h_3 s => cases hb : Nat.ble s.size 9223372036854775807 <;> rw [hb] at h <;> simp [PV.oids] at h
    all_goals simp [PV.oids] at h
  | global g => simp [opd, PV.oids] at h
  | func f => simp [opd, PV.oids, PV.oidsL] at h
section
variable {P : Program} {E : Env} {w : World} {A : Nat → Prop} {μ : Nat → Value} {S : St} {a : Act} {o : Oper} {al : Nat} {ρ : Type} {r : ρ} {K : PV → Option OB → Option ρ}
theorem run_val {s : Sem Value} {z : Value} {w' : World} (h : s.run P w = .ok z w') : (do pure (.value (← s)) : Sem Next).run P w = .ok (.value z) w' := by
  simp [Sem.run_bind, h, Result.andThen]
/-- 'x' is what the operation comes to -/
abbrev Right (P : Program) (w : World) (A : Nat → Prop) (μ : Nat → Value) (S : St) (a : Act) (o : Oper) (al : Nat) (K : PV → Option OB → Option ρ) (r : ρ) : Prop :=
  ∃ pv nb, K pv nb = some r ∧ QR w A S.ob μ al ((execOp a.eval o).run P w) pv nb
theorem Right.plain {pv : PV} {v : Value} (hk : K pv none = some r) (h : (execOp a.eval o).run P w = .ok (.value v) w) (hv : VR w A S.ob μ pv v) : Right P w A μ S a o al K r :=
  ⟨pv, none, hk, by rw [h]; exact .plain hv⟩

theorem index_ok {a0 : Addr} {n : Int} {len : Nat} (h : inR n len = true) : 0 ≤ n ∧ n < (len : Int) := by
  simpa [inR] using h
theorem run_indexAt_slice {t e : TypeId} {T : Ty} (ht : P.underlying t = some (.slice e)) (he : TyOK P e T) {b off len c : Nat} {k : IntKind} {n : Int} (h0 : 0 ≤ n) (h1 : n < (len : Int)) :
    (Instr.indexAt t (.slice (some ⟨b, off, none⟩) len c) (.int k n)).run P w = .ok (.pointer (some ⟨b, off + n.toNat * T.cells, none⟩)) w := by
  obtain ⟨i, hi, hs, _⟩ := he.info
  have h2 := run_sizeOf' (w := w) (n := T.cells) ⟨i, hi, hs⟩
  simp [Instr.indexAt, asIntOf, Sem.run_bind, run_underlying ht, Result.andThen, h0, h1, h2, Addr.add_lit]
theorem DR.nth_el {T : Ty} {xs : List T.den} {x : Value} (h : DR w A (.slice T) xs [x]) {n : Int} (h0 : 0 ≤ n) (h1 : n < (xs.length : Int)) :
    ∃ b off c cx, x = .slice (some ⟨b, off, none⟩) xs.length c ∧ ¬ A b ∧ b < w.heap.size ∧ DR w A T (rd T.dflt xs n) cx ∧ LiesAt w b (off + n.toNat * T.cells) cx := by
  simp only [DR] at h
  obtain ⟨a', c, e, hc, h⟩ := h
  simp at e
  rcases h with h | ⟨b, off, rfl, hn, hb, h⟩
  · rw [h] at h1; simp at h1; omega
  · have hlt : n.toNat < xs.length := by omega
    have hg : nth (α := T.den) xs n.toNat = some (rd T.dflt xs n) := by
      simp [nth, rd, List.getD, List.getElem?_eq_getElem hlt]
    obtain ⟨cx, h3, h4⟩ := h n.toNat _ hg
    exact ⟨b, off, c, cx, e, hn, hb, h3, h4⟩
theorem elem_some {t : Nat} {T : Ty} (hE : EnvTy P E) (h : E.elem t = some T) : ∃ e, P.underlying t = some (.slice e) ∧ TyOK P e T ∧ 0 < T.cells := by
  unfold Env.elem at h
  split at h
  · rename_i U hd
    cases h
    have := hE t _ hd
    simp only [TDOK, TyOK] at this
    exact this.2
  · cases h
theorem load_sound (hE : EnvTy P E) (hs : Slots w A S.ob μ S.slots a) (ho : Objs w A S.ob μ) {t : TypeId} {x : Operand} (hop : o.op = .load t x) (h : evP E o S al K = some r) : Right P w A μ S a o al K r := by
  simp only [evP, hop] at h
  have hrun : ∀ (b off : Nat) (cs : List Value) (d : TD), TDOK P t d → a.eval x = .pointer (some ⟨b, off, none⟩) → LiesAt w b off cs → cs.length = d.cells →
      (execOp a.eval o).run P w = .ok (.value (wrapV d.isAgg cs)) w := fun b off cs d hd he hc hl => by
    simp only [execOp, hop]
    refine run_val ?_
    simp only [he, Instr.loadAt, Instr.sureAddr, Sem.run_bind, Sem.run_pure, Result.andThen]
    exact run_loadVar' hd hc hl
  split at h
  · rename_i d hd
    have hd' := hE _ _ hd
    have hv := hs.opd x
    split at h
    · rename_i T y hx
      rw [hx] at hv
      obtain ⟨b, off, cx, e, hn, hb, hdr, hc⟩ := hv.el
      obtain ⟨hfit, h⟩ := cond_some h
      have hcr := explode_sound (ob := S.ob) (μ := μ) _ _ _ hdr
      exact .plain h (hrun b off cx d hd' e hc (TD.fits_len _ _ _ hfit hcr)) (.of_cells hcr (TD.fits_agg hfit))
    · rename_i ob p hx
      rw [hx] at hv
      split at h
      · rename_i d0 v hob
        obtain ⟨hfit, h⟩ := cond_some h
        obtain ⟨b, off, d', hm, hoff, e⟩ := hv.ptr hob
        have hor := ho.each ob
        simp only [OR, hob] at hor
        obtain ⟨b', cs, tt, hm', hheap, hfits, hcr⟩ := hor
        rw [hm] at hm'
        simp only [Value.pointer.injEq, Option.some.injEq, Addr.mk.injEq] at hm'
        obtain ⟨rfl, _, _⟩ := hm'
        obtain ⟨h1, h2, h3, _⟩ := TD.path_sound _ _ _ _ _ _ hfits hcr hoff
        have hl := TD.fits_len _ _ _ hfits hcr
        have hlen := TD.fits_len _ _ _ hfit h1
        have hlie : LiesAt w b off ((cs.toList.drop off).take d'.cells) := fun j v hj => by
          rw [List.getElem?_take] at hj
          split at hj
          · rw [List.getElem?_drop] at hj
            simp only [World.cell?, hheap]
            simpa using hj
          · cases hj
        exact .plain h (hrun b off _ d hd' e hlie hlen) (.of_cells h1 (TD.fits_agg hfit))
      · cases h
    · rename_i ob i p hx
      rw [hx] at hv
      split at h
      · rename_i T xs hob
        obtain ⟨hin, h⟩ := cond_some h
        obtain ⟨v, hv', h⟩ := optK_some h
        obtain ⟨hfit, h⟩ := cond_some h
        obtain ⟨h0, h1⟩ := index_ok (a0 := ⟨0, 0, none⟩) hin
        obtain ⟨b, off, n, c, o2, T', hm, hoff, _, e⟩ := hv.elo hob
        have hor := ho.each ob
        simp only [OR, hob] at hor
        rcases hor with ⟨hl0, _⟩ | ⟨b', off', c', cs, tt, hm', hheap, _, _, _, hel⟩
        · omega
        rw [hm] at hm'
        simp only [Value.slice.injEq, Option.some.injEq, Addr.mk.injEq] at hm'
        obtain ⟨⟨rfl, rfl, _⟩, _, _⟩ := hm'
        have hlt : i.toNat < List.length xs := by omega
        have hg : nth (α := T.den) xs i.toNat = some (rd T.dflt xs i) := by
          simp [nth, rd, List.getD, List.getElem?_eq_getElem hlt]
        obtain ⟨cx, hdr, hcx⟩ := hel _ _ hg
        obtain ⟨o3, T3, hoff', h3, h4, h5⟩ := getT_sound (ob := S.ob) (μ := μ) _ _ _ _ _ hv' hdr
        rw [hoff] at hoff'
        simp only [Option.some.injEq, Prod.mk.injEq] at hoff'
        obtain ⟨rfl, rfl⟩ := hoff'
        have hlen := TD.fits_len _ _ _ hfit h3
        have hlie : LiesAt w b (off + i.toNat * T.cells + o2) ((cx.drop o2).take T'.cells) := by
          refine LiesAt.sub (fun j v hj => ?_) o2 T'.cells
          simp only [World.cell?, hheap]
          simpa using hcx j v hj
        exact .plain h (hrun b _ _ d hd' e hlie hlen) (.of_cells h3 (TD.fits_agg hfit))
      · cases h
    · cases h
  · cases h

/-! ### Fields -/
theorem tys_field : ∀ (fields : List Field) (fs : Tys) (base i off : Nat) (T : Ty), TysOK P fields base fs → Ty.off.go fs i [] = some (off, T) →
    ∃ f, fields[i]? = some f ∧ f.offset = base + off ∧ TyOK P f.type T ∧ 0 < T.cells
  | _, .nil, _, _, _, _, _, h => by simp [Ty.off.go] at h
  | [], .cons _ _, _, _, _, _, hk, _ => by simp [TysOK] at hk
  | f :: l, .cons t ts, base, 0, off, T, hk, h => by
    simp only [TysOK] at hk
    have : off = 0 ∧ t = T := by cases t <;> (simp only [Ty.off.go, Ty.off, Option.some.injEq, Prod.mk.injEq] at h; exact ⟨h.1.symm, h.2⟩)
    obtain ⟨rfl, rfl⟩ := this
    exact ⟨f, rfl, hk.1, hk.2.2.1, hk.2.1⟩
  | f :: l, .cons t ts, base, n + 1, off, T, hk, h => by
    simp only [TysOK] at hk
    simp only [Ty.off.go, Option.map_eq_some_iff] at h
    obtain ⟨⟨off', T'⟩, h, e⟩ := h
    simp only [Prod.mk.injEq] at e
    obtain ⟨rfl, rfl⟩ := e
    obtain ⟨g, h1, h2, h3⟩ := tys_field l ts (base + t.cells) n off' T' hk.2.2.2 h
    exact ⟨g, by simpa using h1, by omega, h3⟩
theorem tds_field : ∀ (fields : List Field) (fs : TDs) (base i off : Nat) (T : TD), TDsOK P fields base fs → TD.off.go fs i [] = some (off, T) →
    ∃ f, fields[i]? = some f ∧ f.offset = base + off ∧ TDOK P f.type T ∧ 0 < T.cells
  | _, .nil, _, _, _, _, _, h => by simp [TD.off.go] at h
  | [], .cons _ _, _, _, _, _, hk, _ => by simp [TDsOK] at hk
  | f :: l, .cons t ts, base, 0, off, T, hk, h => by
    simp only [TDsOK] at hk
    have : off = 0 ∧ t = T := by cases t <;> (simp only [TD.off.go, TD.off, Option.some.injEq, Prod.mk.injEq] at h; exact ⟨h.1.symm, h.2⟩)
    obtain ⟨rfl, rfl⟩ := this
    exact ⟨f, rfl, hk.1, hk.2.2.1, hk.2.1⟩
  | f :: l, .cons t ts, base, n + 1, off, T, hk, h => by
    simp only [TDsOK] at hk
    simp only [TD.off.go, Option.map_eq_some_iff] at h
    obtain ⟨⟨off', T'⟩, h, e⟩ := h
    simp only [Prod.mk.injEq] at e
    obtain ⟨rfl, rfl⟩ := e
    obtain ⟨g, h1, h2, h3⟩ := tds_field l ts (base + t.cells) n off' T' hk.2.2.2 h
    exact ⟨g, by simpa using h1, by omega, h3⟩
theorem td_field {s : TypeId} {d : TD} {f off : Nat} {d' : TD} (hd : TDOK P s d) (h : d.off [f] = some (off, d')) :
    ∃ fields fld, P.underlying s = some (.struct fields) ∧ fields[f]? = some fld ∧ fld.offset = off ∧ TDOK P fld.type d' ∧ 0 < d'.cells := by
  cases d with
  | cell k => simp [TD.off] at h
  | data T =>
    simp only [TD.off, Option.map_eq_some_iff] at h
    obtain ⟨⟨off', T'⟩, h, e⟩ := h
    simp only [Prod.mk.injEq] at e
    obtain ⟨rfl, rfl⟩ := e
    cases T <;> simp only [Ty.off] at h <;> try cases h
    simp only [TDOK, TyOK] at hd
    obtain ⟨_, fields, hu, hk⟩ := hd
    obtain ⟨fld, h1, h2, h3, h4⟩ := tys_field _ _ _ _ _ _ hk h
    exact ⟨fields, fld, hu, by simpa using h1, by omega, by simpa only [TDOK] using h3, h4⟩
  | agg ds =>
    simp only [TD.off] at h
    simp only [TDOK] at hd
    obtain ⟨_, fields, hu, hk⟩ := hd
    obtain ⟨fld, h1, h2, h3, h4⟩ := tds_field _ _ _ _ _ _ hk h
    exact ⟨fields, fld, hu, by simpa using h1, by omega, h3, h4⟩
mutual
theorem Ty.off_snoc : ∀ (T : Ty) (p : List Nat) (f o1 o2 : Nat) (T1 T2 : Ty), T.off p = some (o1, T1) → T1.off [f] = some (o2, T2) → T.off (p ++ [f]) = some (o1 + o2, T2)
  | T, [], f, o1, o2, T1, T2, h, h2 => by
    have : o1 = 0 ∧ T = T1 := by cases T <;> (simp only [Ty.off, Option.some.injEq, Prod.mk.injEq] at h; exact ⟨h.1.symm, h.2⟩)
    obtain ⟨rfl, rfl⟩ := this
    simpa using h2
  | .struct fs, i :: p, f, o1, o2, T1, T2, h, h2 => by
    simp only [Ty.off] at h
    simp only [List.cons_append, Ty.off]
    exact Tys.off_snoc fs i p f o1 o2 T1 T2 h h2
  | .int _, _ :: _, _, _, _, _, _, h, _ => by simp [Ty.off] at h
  | .bool, _ :: _, _, _, _, _, _, h, _ => by simp [Ty.off] at h
  | .str, _ :: _, _, _, _, _, _, h, _ => by simp [Ty.off] at h
  | .slice _, _ :: _, _, _, _, _, _, h, _ => by simp [Ty.off] at h
theorem Tys.off_snoc : ∀ (T : Tys) (i : Nat) (p : List Nat) (f o1 o2 : Nat) (T1 T2 : Ty), Ty.off.go T i p = some (o1, T1) → T1.off [f] = some (o2, T2) → Ty.off.go T i (p ++ [f]) = some (o1 + o2, T2)
  | .nil, _, _, _, _, _, _, _, h, _ => by simp [Ty.off.go] at h
  | .cons t ts, 0, p, f, o1, o2, T1, T2, h, h2 => by
    simp only [Ty.off.go] at h ⊢
    exact Ty.off_snoc t p f o1 o2 T1 T2 h h2
  | .cons t ts, n + 1, p, f, o1, o2, T1, T2, h, h2 => by
    simp only [Ty.off.go, Option.map_eq_some_iff] at h ⊢
    obtain ⟨⟨o', T'⟩, h, e⟩ := h
    simp only [Prod.mk.injEq] at e
    obtain ⟨rfl, rfl⟩ := e
    exact ⟨_, Tys.off_snoc ts n p f o' o2 T' T2 h h2, by simp [Nat.add_assoc]⟩
end
mutual
theorem TD.off_snoc : ∀ (T : TD) (p : List Nat) (f o1 o2 : Nat) (T1 T2 : TD), T.off p = some (o1, T1) → T1.off [f] = some (o2, T2) → T.off (p ++ [f]) = some (o1 + o2, T2)
  | T, [], f, o1, o2, T1, T2, h, h2 => by
    have : o1 = 0 ∧ T = T1 := by cases T <;> (simp only [TD.off, Option.some.injEq, Prod.mk.injEq] at h; exact ⟨h.1.symm, h.2⟩)
    obtain ⟨rfl, rfl⟩ := this
    simpa using h2
  | .data T, i :: p, f, o1, o2, T1, T2, h, h2 => by
    simp only [TD.off, Option.map_eq_some_iff] at h
    obtain ⟨⟨o', T'⟩, h, e⟩ := h
    simp only [Prod.mk.injEq] at e
    obtain ⟨rfl, rfl⟩ := e
    simp only [TD.off, Option.map_eq_some_iff] at h2
    obtain ⟨⟨o'', T''⟩, h2, e⟩ := h2
    simp only [Prod.mk.injEq] at e
    obtain ⟨rfl, rfl⟩ := e
    simp only [List.cons_append, TD.off, Option.map_eq_some_iff]
    exact ⟨_, Ty.off_snoc T (i :: p) f _ _ _ _ h h2, rfl⟩
  | .agg fs, i :: p, f, o1, o2, T1, T2, h, h2 => by
    simp only [TD.off] at h
    simp only [List.cons_append, TD.off]
    exact TDs.off_snoc fs i p f o1 o2 T1 T2 h h2
  | .cell _, _ :: _, _, _, _, _, _, h, _ => by simp [TD.off] at h
theorem TDs.off_snoc : ∀ (T : TDs) (i : Nat) (p : List Nat) (f o1 o2 : Nat) (T1 T2 : TD), TD.off.go T i p = some (o1, T1) → T1.off [f] = some (o2, T2) → TD.off.go T i (p ++ [f]) = some (o1 + o2, T2)
  | .nil, _, _, _, _, _, _, _, h, _ => by simp [TD.off.go] at h
  | .cons t ts, 0, p, f, o1, o2, T1, T2, h, h2 => by
    simp only [TD.off.go] at h ⊢
    exact TD.off_snoc t p f o1 o2 T1 T2 h h2
  | .cons t ts, n + 1, p, f, o1, o2, T1, T2, h, h2 => by
    simp only [TD.off.go, Option.map_eq_some_iff] at h ⊢
    obtain ⟨⟨o', T'⟩, h, e⟩ := h
    simp only [Prod.mk.injEq] at e
    obtain ⟨rfl, rfl⟩ := e
    exact ⟨_, TDs.off_snoc ts n p f o' o2 T' T2 h h2, by simp [Nat.add_assoc]⟩
end
/-- a field of plain data -/
theorem fieldEl_sound : ∀ (fs : Tys) (x : fs.den) (cs : List Value) (i off : Nat) (T : Ty), DRs w A fs x cs → Ty.off.go fs i [] = some (off, T) →
    ∃ y : T.den, fieldEl fs x i = .el T y ∧ DR w A T y ((cs.drop off).take T.cells)
  | .nil, _, _, _, _, _, _, h => by simp [Ty.off.go] at h
  | .cons t ts, x, cs, 0, off, T, hd, h => by
    have : off = 0 ∧ t = T := by cases t <;> (simp only [Ty.off.go, Ty.off, Option.some.injEq, Prod.mk.injEq] at h; exact ⟨h.1.symm, h.2⟩)
    obtain ⟨rfl, rfl⟩ := this
    exact ⟨x.1, rfl, by simpa using hd.split.1⟩
  | .cons t ts, x, cs, n + 1, off, T, hd, h => by
    simp only [Ty.off.go, Option.map_eq_some_iff] at h
    obtain ⟨⟨off', T'⟩, h, e⟩ := h
    simp only [Prod.mk.injEq] at e
    obtain ⟨rfl, rfl⟩ := e
    obtain ⟨y, h1, h2⟩ := fieldEl_sound ts x.2 _ n off' T' hd.split.2 h
    exact ⟨y, h1, by rwa [List.drop_drop] at h2⟩
theorem run_fieldAt {s : TypeId} {fields : Array Field} {f : Nat} {fld : Field} {d' : TD} (hu : P.underlying s = some (.struct fields)) (hf : fields[f]? = some fld) (hd : TDOK P fld.type d') (hp : 0 < d'.cells) (b off : Nat) :
    (Instr.fieldAt s (.pointer (some ⟨b, off, none⟩)) f).run P w = .ok (.pointer (some ⟨b, off + fld.offset, none⟩)) w := by
  obtain ⟨i, hi, hs, _⟩ := hd.info
  have h2 := run_sizeOf' (w := w) (n := d'.cells) ⟨i, hi, hs⟩
  have hne : ¬ d'.cells = 0 := by omega
  simp [Instr.fieldAt, Instr.sureAddr, fieldPlace, Sem.run_bind, run_underlying hu, hf, Result.andThen, h2, hne, Addr.add_lit]
theorem fieldAddr_sound (hE : EnvTy P E) (hs : Slots w A S.ob μ S.slots a) (ho : Objs w A S.ob μ) {s : TypeId} {x : Operand} {f : Nat} (hop : o.op = .fieldAddr s x f) (h : evP E o S al K = some r) : Right P w A μ S a o al K r := by
  simp only [evP, hop] at h
  split at h
  · rename_i d hd
    have hd' := hE _ _ hd
    have hv := hs.opd x
    split at h
    · cases h
    · rename_i q hq
      obtain ⟨off, d'⟩ := q
      obtain ⟨fields, fld, hu, hfl, hoff, hdd, hpos⟩ := td_field hd' hq
      have hrun : ∀ b o1 : Nat, a.eval x = .pointer (some ⟨b, o1, none⟩) → (execOp a.eval o).run P w = .ok (.value (.pointer (some ⟨b, o1 + off, none⟩))) w := fun b o1 he => by
        simp only [execOp, hop]
        refine run_val ?_
        rw [he, run_fieldAt hu hfl hdd hpos, hoff]
      split at h
      · rename_i fs y hx
        rw [hx] at hv
        obtain ⟨hde, hk⟩ := cond_some h
        simp only [decide_eq_true_eq] at hde
        subst hde
        obtain ⟨b, o1, cx, e, hn, hb, hdr, hc⟩ := hv.el
        simp only [DR] at hdr
        simp only [TD.off, Ty.off, Option.map_eq_some_iff] at hq
        obtain ⟨⟨off', T'⟩, hq, e2⟩ := hq
        simp only [Prod.mk.injEq] at e2
        obtain ⟨rfl, rfl⟩ := e2
        obtain ⟨z, hz, hdz⟩ := fieldEl_sound fs y cx f off' T' hdr hq
        rw [hz] at hk
        refine .plain hk (hrun b o1 e) (.of_one ?_ rfl rfl)
        simp only [CR]
        exact ⟨b, o1 + off', _, rfl, hn, hb, hdz, hc.sub off' T'.cells⟩
      · rename_i ob p hx
        rw [hx] at hv
        split at h
        · rename_i d0 v hob
          split at h
          · rename_i q hq2
            obtain ⟨o1, d1⟩ := q
            obtain ⟨hde, hk⟩ := cond_some h
            simp only [decide_eq_true_eq] at hde
            subst hde
            obtain ⟨b, o1', d1', hm, hoff1, e⟩ := hv.ptr hob
            rw [hq2] at hoff1
            simp only [Option.some.injEq, Prod.mk.injEq] at hoff1
            obtain ⟨rfl, rfl⟩ := hoff1
            refine .plain hk (hrun b o1 e) (.of_one ?_ rfl rfl)
            simp only [CR, hob]
            exact ⟨_, rfl, rfl, b, o1 + off, d', hm, TD.off_snoc _ _ _ _ _ _ _ hq2 hq, rfl⟩
          · cases h
        · cases h
      · rename_i ob i p hx
        rw [hx] at hv
        split at h
        · rename_i T xs hob
          split at h
          · rename_i q hq2
            obtain ⟨o1, d1⟩ := q
            obtain ⟨hde, hk⟩ := cond_some h
            simp only [decide_eq_true_eq] at hde
            subst hde
            obtain ⟨b, ofs, n, c, o1', d1', hm, hoff1, hi, e⟩ := hv.elo hob
            rw [hq2] at hoff1
            simp only [Option.some.injEq, Prod.mk.injEq] at hoff1
            obtain ⟨rfl, rfl⟩ := hoff1
            simp only [TD.off, Option.map_eq_some_iff] at hq
            obtain ⟨⟨off', T'⟩, hq, e2⟩ := hq
            simp only [Prod.mk.injEq] at e2
            obtain ⟨rfl, rfl⟩ := e2
            refine .plain hk (hrun b _ e) (.of_one ?_ rfl rfl)
            simp only [CR, hob]
            exact ⟨_, rfl, rfl, b, ofs, n, c, o1 + off', T', hm, Ty.off_snoc _ _ _ _ _ _ _ hq2 hq, hi, by simp [Nat.add_assoc]⟩
          · cases h
        · cases h
      · cases h
  · cases h
theorem indexAddr_sound (hE : EnvTy P E) (hs : Slots w A S.ob μ S.slots a) (ho : Objs w A S.ob μ) {t : TypeId} {x y : Operand} (hop : o.op = .indexAddr t x y) (h : evP E o S al K = some r) : Right P w A μ S a o al K r := by
  simp only [evP, hop] at h
  have hv := hs.opd x
  have hi := hs.opd y
  split at h
  · rename_i U k n hU hy
    rw [hy] at hi
    have ei := hi.int
    obtain ⟨e, hte, heU, hpos⟩ := elem_some hE hU
    split at h
    · rename_i T xs hx
      rw [hx] at hv
      obtain ⟨hc, hk⟩ := cond_some h
      simp only [Bool.and_eq_true, decide_eq_true_eq] at hc
      obtain ⟨rfl, hin⟩ := hc
      obtain ⟨h0, h1⟩ := index_ok (a0 := ⟨0, 0, none⟩) hin
      obtain ⟨b, off, c, cx, ex, hn, hb, hdr, hl⟩ := DR.nth_el hv.sl h0 h1
      refine .plain (v := .pointer (some ⟨b, off + n.toNat * U.cells, none⟩)) hk ?_ (.of_one ?_ rfl rfl)
      · simp only [execOp, hop]
        refine run_val ?_
        rw [ex, ei]
        exact run_indexAt_slice hte heU h0 h1
      · simp only [CR]
        exact ⟨b, _, cx, rfl, hn, hb, hdr, hl⟩
    · rename_i ob hx
      rw [hx] at hv
      split at h
      · rename_i T xs hob
        obtain ⟨hc, hk⟩ := cond_some h
        simp only [Bool.and_eq_true, decide_eq_true_eq] at hc
        obtain ⟨rfl, hin⟩ := hc
        obtain ⟨h0, h1⟩ := index_ok (a0 := ⟨0, 0, none⟩) hin
        have hm := hv.row hob
        have hor := ho.each ob
        simp only [OR, hob] at hor
        rcases hor with ⟨hl0, _⟩ | ⟨b, off, c, cs, tt, hm', hheap, _, _, _, hel⟩
        · omega
        rw [hm'] at hm
        refine .plain (v := .pointer (some ⟨b, off + n.toNat * U.cells, none⟩)) hk ?_ (.of_one ?_ rfl rfl)
        · simp only [execOp, hop]
          refine run_val ?_
          rw [← hm, ei]
          exact run_indexAt_slice hte heU h0 h1
        · simp only [CR, hob]
          refine ⟨_, rfl, rfl, b, off, _, c, 0, U, hm', ?_, h0, rfl⟩
          cases U <;> simp [Ty.off]
      · cases h
    · cases h
  · cases h
end
end Go.Vm
