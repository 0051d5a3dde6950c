/- Vm, part 8: 'evP' is right. Own work. -/
import Derived.Test.YtbjpkdbneopgkaaVmA
import Derived.IntWalk
import Derived.Laws.CopyRow
set_option linter.unusedVariables false
set_option linter.unusedSimpArgs false
set_option linter.unusedSectionVars false
namespace Go.Vm
variable [MonotC]
open Go.RowKit

/-- nothing leads to this object yet -/
structure Fresh (S : St) (al : Nat) : Prop where
  dead : S.ob al = .dead
  slots : al ∉ PV.oidsL S.slots
  objs : ∀ o, al ∉ (S.ob o).oids
theorem oidsL_mem {l : List PV} {v : PV} {o : Nat} (h : v ∈ l) (ho : o ∈ v.oids) : o ∈ PV.oidsL l := by
  induction l with
  | nil => cases h
  | cons x l ih =>
    simp only [PV.oidsL, List.mem_append]
    rcases List.mem_cons.1 h with rfl | h
    · exact .inl ho
    · exact .inr (ih h)
theorem opd_oids {S : St} {x : Operand} {o : Nat} (h : o ∈ (opd S x).oids) : o ∈ PV.oidsL S.slots := by
  cases x with
  | tmp t =>
    simp only [opd] at h
    cases ht : S.slots[t]? with
    | none => simp [List.getD, ht, PV.oids] at h
    | some v =>
      have : S.slots.getD t .undef = v := by simp [List.getD, ht]
      rw [this] at h
      exact oidsL_mem (List.mem_of_getElem? ht) h
  | const v =>
    simp only [opd] at h
    unfold ofConst at h
    split at h
    case h_3 s => cases hb : Nat.ble s.size 9223372036854775807 <;> rw [hb] at h <;> simp [PV.oids] at h
    all_goals simp [PV.oids] at h
  | global g => simp [opd, PV.oids] at h
  | func f => simp [opd, PV.oids, PV.oidsL] at h
section
variable {P : Program} {E : Env} {w : World} {A : Nat → Prop} {μ : Nat → Value} {S : St} {a : Act} {o : Oper} {al : Nat} {ρ : Type} {r : ρ} {K : PV → Option OB → Option ρ}
theorem run_val {s : Sem Value} {z : Value} {w' : World} (h : s.run P w = .ok z w') : (do pure (.value (← s)) : Sem Next).run P w = .ok (.value z) w' := by
  simp [Sem.run_bind, h, Result.andThen]
/-- 'x' is what the operation comes to -/
abbrev Right (P : Program) (w : World) (A : Nat → Prop) (μ : Nat → Value) (S : St) (a : Act) (o : Oper) (al : Nat) (K : PV → Option OB → Option ρ) (r : ρ) : Prop :=
  ∃ pv nb, K pv nb = some r ∧ QR w A S.ob μ al ((execOp a.eval o).run P w) pv nb
theorem Right.plain {pv : PV} {v : Value} (hk : K pv none = some r) (h : (execOp a.eval o).run P w = .ok (.value v) w) (hv : VR w A S.ob μ pv v) : Right P w A μ S a o al K r :=
  ⟨pv, none, hk, by rw [h]; exact .plain hv⟩

theorem index_ok {a0 : Addr} {n : Int} {len : Nat} (h : inR n len = true) : 0 ≤ n ∧ n < (len : Int) := by
  simpa [inR] using h
theorem run_indexAt_slice {t e : TypeId} {T : Ty} (ht : P.underlying t = some (.slice e)) (he : TyOK P e T) {b off len c : Nat} {k : IntKind} {n : Int} (h0 : 0 ≤ n) (h1 : n < (len : Int)) :
    (Instr.indexAt t (.slice (some ⟨b, off, none⟩) len c) (.int k n)).run P w = .ok (.pointer (some ⟨b, off + n.toNat * T.cells, none⟩)) w := by
  obtain ⟨i, hi, hs, _⟩ := he.info
  have h2 := run_sizeOf' (w := w) (n := T.cells) ⟨i, hi, hs⟩
  simp [Instr.indexAt, asIntOf, Sem.run_bind, run_underlying ht, Result.andThen, h0, h1, h2, Addr.add_lit]
theorem DR.nth_el {T : Ty} {xs : List T.den} {x : Value} (h : DR w A (.slice T) xs [x]) {n : Int} (h0 : 0 ≤ n) (h1 : n < (xs.length : Int)) :
    ∃ b off c cx, x = .slice (some ⟨b, off, none⟩) xs.length c ∧ ¬ A b ∧ b < w.heap.size ∧ DR w A T (rd T.dflt xs n) cx ∧ LiesAt w b (off + n.toNat * T.cells) cx := by
  simp only [DR] at h
  obtain ⟨a', c, e, hc, h⟩ := h
  simp at e
  rcases h with h | ⟨b, off, rfl, hn, hb, h⟩
  · rw [h] at h1; simp at h1; omega
  · have hlt : n.toNat < xs.length := by omega
    have hg : nth (α := T.den) xs n.toNat = some (rd T.dflt xs n) := by
      simp [nth, rd, List.getD, List.getElem?_eq_getElem hlt]
    obtain ⟨cx, h3, h4⟩ := h n.toNat _ hg
    exact ⟨b, off, c, cx, e, hn, hb, h3, h4⟩
theorem elem_some {t : Nat} {T : Ty} (hE : EnvTy P E) (h : E.elem t = some T) : ∃ e, P.underlying t = some (.slice e) ∧ TyOK P e T ∧ 0 < T.cells := by
  unfold Env.elem at h
  split at h
  · rename_i U hd
    cases h
    have := hE t _ hd
    simp only [TDOK, TyOK] at this
    obtain ⟨e, h1, h2, h3, _⟩ := this.2
    exact ⟨e, h1, h2, h3⟩
  · cases h
theorem elem_byte {t : Nat} {T : Ty} (hE : EnvTy P E) (h : E.elem t = some T) : ∃ e, P.underlying t = some (.slice e) ∧ TyOK P e T ∧ 0 < T.cells ∧ (t = bytesT → e = byteT) := by
  unfold Env.elem at h
  split at h
  · rename_i U hd
    cases h
    have := hE t _ hd
    simp only [TDOK, TyOK] at this
    exact this.2
  · cases h
theorem load_sound (hE : EnvTy P E) (hs : Slots w A S.ob μ S.slots a) (ho : Objs w A S.ob μ) {t : TypeId} {x : Operand} (hop : o.op = .load t x) (h : evP E o S al K = some r) : Right P w A μ S a o al K r := by
  simp only [evP, hop] at h
  have hrun : ∀ (b off : Nat) (cs : List Value) (d : TD), TDOK P t d → a.eval x = .pointer (some ⟨b, off, none⟩) → LiesAt w b off cs → cs.length = d.cells →
      (execOp a.eval o).run P w = .ok (.value (wrapV d.isAgg cs)) w := fun b off cs d hd he hc hl => by
    simp only [execOp, hop]
    refine run_val ?_
    simp only [he, Instr.loadAt, Instr.sureAddr, Sem.run_bind, Sem.run_pure, Result.andThen]
    exact run_loadVar' hd hc hl
  split at h
  · rename_i d hd
    have hd' := hE _ _ hd
    have hv := hs.opd x
    split at h
    · rename_i T y hx
      rw [hx] at hv
      obtain ⟨b, off, cx, e, hn, hb, hdr, hc⟩ := hv.el
      obtain ⟨hfit, h⟩ := cond_some h
      have hcr := explode_sound (ob := S.ob) (μ := μ) _ _ _ hdr
      exact .plain h (hrun b off cx d hd' e hc (TD.fits_len _ _ _ hfit hcr)) (.of_cells hcr (TD.fits_agg hfit))
    · rename_i ob p hx
      rw [hx] at hv
      split at h
      · rename_i d0 v hob
        obtain ⟨hfit, h⟩ := cond_some h
        obtain ⟨b, off, d', hm, hoff, e⟩ := hv.ptr hob
        have hor := ho.each ob
        simp only [OR, hob] at hor
        obtain ⟨b', cs, tt, hm', hheap, hfits, hcr, _⟩ := hor
        rw [hm] at hm'
        simp only [Value.pointer.injEq, Option.some.injEq, Addr.mk.injEq] at hm'
        obtain ⟨rfl, _, _⟩ := hm'
        obtain ⟨h1, h2, h3, _⟩ := TD.path_sound _ _ _ _ _ _ hfits hcr hoff
        have hl := TD.fits_len _ _ _ hfits hcr
        have hlen := TD.fits_len _ _ _ hfit h1
        have hlie : LiesAt w b off ((cs.toList.drop off).take d'.cells) := fun j v hj => by
          rw [List.getElem?_take] at hj
          split at hj
          · rw [List.getElem?_drop] at hj
            simp only [World.cell?, hheap]
            simpa using hj
          · cases hj
        exact .plain h (hrun b off _ d hd' e hlie hlen) (.of_cells h1 (TD.fits_agg hfit))
      · cases h
    · rename_i ob i p hx
      rw [hx] at hv
      split at h
      · rename_i T xs hob
        obtain ⟨hin, h⟩ := cond_some h
        obtain ⟨v, hv', h⟩ := optK_some h
        obtain ⟨hfit, h⟩ := cond_some h
        obtain ⟨h0, h1⟩ := index_ok (a0 := ⟨0, 0, none⟩) hin
        obtain ⟨b, off, n, c, o2, T', hm, hoff, _, e⟩ := hv.elo hob
        have hor := ho.each ob
        simp only [OR, hob] at hor
        rcases hor with ⟨hl0, _⟩ | ⟨b', off', c', cs, tt, hm', hheap, _, _, _, hel⟩
        · omega
        rw [hm] at hm'
        simp only [Value.slice.injEq, Option.some.injEq, Addr.mk.injEq] at hm'
        obtain ⟨⟨rfl, rfl, _⟩, _, _⟩ := hm'
        have hlt : i.toNat < List.length xs := by omega
        have hg : nth (α := T.den) xs i.toNat = some (rd T.dflt xs i) := by
          simp [nth, rd, List.getD, List.getElem?_eq_getElem hlt]
        obtain ⟨cx, hdr, hcx⟩ := hel _ _ hg
        obtain ⟨o3, T3, hoff', h3, h4, h5⟩ := getT_sound (ob := S.ob) (μ := μ) _ _ _ _ _ hv' hdr
        rw [hoff] at hoff'
        simp only [Option.some.injEq, Prod.mk.injEq] at hoff'
        obtain ⟨rfl, rfl⟩ := hoff'
        have hlen := TD.fits_len _ _ _ hfit h3
        have hlie : LiesAt w b (off + i.toNat * T.cells + o2) ((cx.drop o2).take T'.cells) := by
          refine LiesAt.sub (fun j v hj => ?_) o2 T'.cells
          simp only [World.cell?, hheap]
          simpa using hcx j v hj
        exact .plain h (hrun b _ _ d hd' e hlie hlen) (.of_cells h3 (TD.fits_agg hfit))
      · cases h
    · cases h
  · cases h

/-! ### Fields -/
theorem tys_field : ∀ (fields : List Field) (fs : Tys) (base i off : Nat) (T : Ty), TysOK P fields base fs → Ty.off.go fs i [] = some (off, T) →
    ∃ f, fields[i]? = some f ∧ f.offset = base + off ∧ TyOK P f.type T ∧ 0 < T.cells
  | _, .nil, _, _, _, _, _, h => by simp [Ty.off.go] at h
  | [], .cons _ _, _, _, _, _, hk, _ => by simp [TysOK] at hk
  | f :: l, .cons t ts, base, 0, off, T, hk, h => by
    simp only [TysOK] at hk
    have : off = 0 ∧ t = T := by cases t <;> (simp only [Ty.off.go, Ty.off, Option.some.injEq, Prod.mk.injEq] at h; exact ⟨h.1.symm, h.2⟩)
    obtain ⟨rfl, rfl⟩ := this
    exact ⟨f, rfl, hk.1, hk.2.2.1, hk.2.1⟩
  | f :: l, .cons t ts, base, n + 1, off, T, hk, h => by
    simp only [TysOK] at hk
    simp only [Ty.off.go, Option.map_eq_some_iff] at h
    obtain ⟨⟨off', T'⟩, h, e⟩ := h
    simp only [Prod.mk.injEq] at e
    obtain ⟨rfl, rfl⟩ := e
    obtain ⟨g, h1, h2, h3⟩ := tys_field l ts (base + t.cells) n off' T' hk.2.2.2 h
    exact ⟨g, by simpa using h1, by omega, h3⟩
theorem tds_field : ∀ (fields : List Field) (fs : TDs) (base i off : Nat) (T : TD), TDsOK P fields base fs → TD.off.go fs i [] = some (off, T) →
    ∃ f, fields[i]? = some f ∧ f.offset = base + off ∧ TDOK P f.type T ∧ 0 < T.cells
  | _, .nil, _, _, _, _, _, h => by simp [TD.off.go] at h
  | [], .cons _ _, _, _, _, _, hk, _ => by simp [TDsOK] at hk
  | f :: l, .cons t ts, base, 0, off, T, hk, h => by
    simp only [TDsOK] at hk
    have : off = 0 ∧ t = T := by cases t <;> (simp only [TD.off.go, TD.off, Option.some.injEq, Prod.mk.injEq] at h; exact ⟨h.1.symm, h.2⟩)
    obtain ⟨rfl, rfl⟩ := this
    exact ⟨f, rfl, hk.1, hk.2.2.1, hk.2.1⟩
  | f :: l, .cons t ts, base, n + 1, off, T, hk, h => by
    simp only [TDsOK] at hk
    simp only [TD.off.go, Option.map_eq_some_iff] at h
    obtain ⟨⟨off', T'⟩, h, e⟩ := h
    simp only [Prod.mk.injEq] at e
    obtain ⟨rfl, rfl⟩ := e
    obtain ⟨g, h1, h2, h3⟩ := tds_field l ts (base + t.cells) n off' T' hk.2.2.2 h
    exact ⟨g, by simpa using h1, by omega, h3⟩
theorem td_field {s : TypeId} {d : TD} {f off : Nat} {d' : TD} (hd : TDOK P s d) (h : d.off [f] = some (off, d')) :
    ∃ fields fld, P.underlying s = some (.struct fields) ∧ fields[f]? = some fld ∧ fld.offset = off ∧ TDOK P fld.type d' ∧ 0 < d'.cells := by
  cases d with
  | cell k => simp [TD.off] at h
  | map K V => simp [TD.off] at h
  | data T =>
    simp only [TD.off, Option.map_eq_some_iff] at h
    obtain ⟨⟨off', T'⟩, h, e⟩ := h
    simp only [Prod.mk.injEq] at e
    obtain ⟨rfl, rfl⟩ := e
    cases T <;> simp only [Ty.off] at h <;> try cases h
    simp only [TDOK, TyOK] at hd
    obtain ⟨_, fields, hu, hk⟩ := hd
    obtain ⟨fld, h1, h2, h3, h4⟩ := tys_field _ _ _ _ _ _ hk.1 h
    exact ⟨fields, fld, hu, by simpa using h1, by omega, by simpa only [TDOK] using h3, h4⟩
  | agg ds =>
    simp only [TD.off] at h
    simp only [TDOK] at hd
    obtain ⟨_, fields, hu, hk⟩ := hd
    obtain ⟨fld, h1, h2, h3, h4⟩ := tds_field _ _ _ _ _ _ hk h
    exact ⟨fields, fld, hu, by simpa using h1, by omega, h3, h4⟩
mutual
theorem Ty.off_snoc : ∀ (T : Ty) (p : List Nat) (f o1 o2 : Nat) (T1 T2 : Ty), T.off p = some (o1, T1) → T1.off [f] = some (o2, T2) → T.off (p ++ [f]) = some (o1 + o2, T2)
  | T, [], f, o1, o2, T1, T2, h, h2 => by
    have : o1 = 0 ∧ T = T1 := by cases T <;> (simp only [Ty.off, Option.some.injEq, Prod.mk.injEq] at h; exact ⟨h.1.symm, h.2⟩)
    obtain ⟨rfl, rfl⟩ := this
    simpa using h2
  | .struct fs, i :: p, f, o1, o2, T1, T2, h, h2 => by
    simp only [Ty.off] at h
    simp only [List.cons_append, Ty.off]
    exact Tys.off_snoc fs i p f o1 o2 T1 T2 h h2
  | .int _, _ :: _, _, _, _, _, _, h, _ => by simp [Ty.off] at h
  | .bool, _ :: _, _, _, _, _, _, h, _ => by simp [Ty.off] at h
  | .str, _ :: _, _, _, _, _, _, h, _ => by simp [Ty.off] at h
  | .slice _, _ :: _, _, _, _, _, _, h, _ => by simp [Ty.off] at h
theorem Tys.off_snoc : ∀ (T : Tys) (i : Nat) (p : List Nat) (f o1 o2 : Nat) (T1 T2 : Ty), Ty.off.go T i p = some (o1, T1) → T1.off [f] = some (o2, T2) → Ty.off.go T i (p ++ [f]) = some (o1 + o2, T2)
  | .nil, _, _, _, _, _, _, _, h, _ => by simp [Ty.off.go] at h
  | .cons t ts, 0, p, f, o1, o2, T1, T2, h, h2 => by
    simp only [Ty.off.go] at h ⊢
    exact Ty.off_snoc t p f o1 o2 T1 T2 h h2
  | .cons t ts, n + 1, p, f, o1, o2, T1, T2, h, h2 => by
    simp only [Ty.off.go, Option.map_eq_some_iff] at h ⊢
    obtain ⟨⟨o', T'⟩, h, e⟩ := h
    simp only [Prod.mk.injEq] at e
    obtain ⟨rfl, rfl⟩ := e
    exact ⟨_, Tys.off_snoc ts n p f o' o2 T' T2 h h2, by simp [Nat.add_assoc]⟩
end
mutual
theorem TD.off_snoc : ∀ (T : TD) (p : List Nat) (f o1 o2 : Nat) (T1 T2 : TD), T.off p = some (o1, T1) → T1.off [f] = some (o2, T2) → T.off (p ++ [f]) = some (o1 + o2, T2)
  | T, [], f, o1, o2, T1, T2, h, h2 => by
    have : o1 = 0 ∧ T = T1 := by cases T <;> (simp only [TD.off, Option.some.injEq, Prod.mk.injEq] at h; exact ⟨h.1.symm, h.2⟩)
    obtain ⟨rfl, rfl⟩ := this
    simpa using h2
  | .data T, i :: p, f, o1, o2, T1, T2, h, h2 => by
    simp only [TD.off, Option.map_eq_some_iff] at h
    obtain ⟨⟨o', T'⟩, h, e⟩ := h
    simp only [Prod.mk.injEq] at e
    obtain ⟨rfl, rfl⟩ := e
    simp only [TD.off, Option.map_eq_some_iff] at h2
    obtain ⟨⟨o'', T''⟩, h2, e⟩ := h2
    simp only [Prod.mk.injEq] at e
    obtain ⟨rfl, rfl⟩ := e
    simp only [List.cons_append, TD.off, Option.map_eq_some_iff]
    exact ⟨_, Ty.off_snoc T (i :: p) f _ _ _ _ h h2, rfl⟩
  | .agg fs, i :: p, f, o1, o2, T1, T2, h, h2 => by
    simp only [TD.off] at h
    simp only [List.cons_append, TD.off]
    exact TDs.off_snoc fs i p f o1 o2 T1 T2 h h2
  | .cell _, _ :: _, _, _, _, _, _, h, _ => by simp [TD.off] at h
theorem TDs.off_snoc : ∀ (T : TDs) (i : Nat) (p : List Nat) (f o1 o2 : Nat) (T1 T2 : TD), TD.off.go T i p = some (o1, T1) → T1.off [f] = some (o2, T2) → TD.off.go T i (p ++ [f]) = some (o1 + o2, T2)
  | .nil, _, _, _, _, _, _, _, h, _ => by simp [TD.off.go] at h
  | .cons t ts, 0, p, f, o1, o2, T1, T2, h, h2 => by
    simp only [TD.off.go] at h ⊢
    exact TD.off_snoc t p f o1 o2 T1 T2 h h2
  | .cons t ts, n + 1, p, f, o1, o2, T1, T2, h, h2 => by
    simp only [TD.off.go, Option.map_eq_some_iff] at h ⊢
    obtain ⟨⟨o', T'⟩, h, e⟩ := h
    simp only [Prod.mk.injEq] at e
    obtain ⟨rfl, rfl⟩ := e
    exact ⟨_, TDs.off_snoc ts n p f o' o2 T' T2 h h2, by simp [Nat.add_assoc]⟩
end
/-- a field of plain data -/
theorem fieldEl_sound : ∀ (fs : Tys) (x : fs.den) (cs : List Value) (i off : Nat) (T : Ty), DRs w A fs x cs → Ty.off.go fs i [] = some (off, T) →
    ∃ y : T.den, fieldEl fs x i = .el T y ∧ DR w A T y ((cs.drop off).take T.cells)
  | .nil, _, _, _, _, _, _, h => by simp [Ty.off.go] at h
  | .cons t ts, x, cs, 0, off, T, hd, h => by
    have : off = 0 ∧ t = T := by cases t <;> (simp only [Ty.off.go, Ty.off, Option.some.injEq, Prod.mk.injEq] at h; exact ⟨h.1.symm, h.2⟩)
    obtain ⟨rfl, rfl⟩ := this
    exact ⟨x.1, rfl, by simpa using hd.split.1⟩
  | .cons t ts, x, cs, n + 1, off, T, hd, h => by
    simp only [Ty.off.go, Option.map_eq_some_iff] at h
    obtain ⟨⟨off', T'⟩, h, e⟩ := h
    simp only [Prod.mk.injEq] at e
    obtain ⟨rfl, rfl⟩ := e
    obtain ⟨y, h1, h2⟩ := fieldEl_sound ts x.2 _ n off' T' hd.split.2 h
    exact ⟨y, h1, by rwa [List.drop_drop] at h2⟩
theorem run_fieldAt {s : TypeId} {fields : Array Field} {f : Nat} {fld : Field} {d' : TD} (hu : P.underlying s = some (.struct fields)) (hf : fields[f]? = some fld) (hd : TDOK P fld.type d') (hp : 0 < d'.cells) (b off : Nat) :
    (Instr.fieldAt s (.pointer (some ⟨b, off, none⟩)) f).run P w = .ok (.pointer (some ⟨b, off + fld.offset, none⟩)) w := by
  obtain ⟨i, hi, hs, _⟩ := hd.info
  have h2 := run_sizeOf' (w := w) (n := d'.cells) ⟨i, hi, hs⟩
  have hne : ¬ d'.cells = 0 := by omega
  simp [Instr.fieldAt, Instr.sureAddr, fieldPlace, Sem.run_bind, run_underlying hu, hf, Result.andThen, h2, hne, Addr.add_lit]
theorem fieldAddr_sound (hE : EnvTy P E) (hs : Slots w A S.ob μ S.slots a) (ho : Objs w A S.ob μ) {s : TypeId} {x : Operand} {f : Nat} (hop : o.op = .fieldAddr s x f) (h : evP E o S al K = some r) : Right P w A μ S a o al K r := by
  simp only [evP, hop] at h
  split at h
  · rename_i d hd
    have hd' := hE _ _ hd
    have hv := hs.opd x
    split at h
    · cases h
    · rename_i q hq
      obtain ⟨off, d'⟩ := q
      obtain ⟨fields, fld, hu, hfl, hoff, hdd, hpos⟩ := td_field hd' hq
      have hrun : ∀ b o1 : Nat, a.eval x = .pointer (some ⟨b, o1, none⟩) → (execOp a.eval o).run P w = .ok (.value (.pointer (some ⟨b, o1 + off, none⟩))) w := fun b o1 he => by
        simp only [execOp, hop]
        refine run_val ?_
        rw [he, run_fieldAt hu hfl hdd hpos, hoff]
      split at h
      · rename_i fs y hx
        rw [hx] at hv
        obtain ⟨hde, hk⟩ := cond_some h
        simp only [decide_eq_true_eq] at hde
        subst hde
        obtain ⟨b, o1, cx, e, hn, hb, hdr, hc⟩ := hv.el
        simp only [DR] at hdr
        simp only [TD.off, Ty.off, Option.map_eq_some_iff] at hq
        obtain ⟨⟨off', T'⟩, hq, e2⟩ := hq
        simp only [Prod.mk.injEq] at e2
        obtain ⟨rfl, rfl⟩ := e2
        obtain ⟨z, hz, hdz⟩ := fieldEl_sound fs y cx f off' T' hdr hq
        rw [hz] at hk
        refine .plain hk (hrun b o1 e) (.of_one ?_ rfl rfl)
        simp only [CR]
        exact ⟨b, o1 + off', _, rfl, hn, hb, hdz, hc.sub off' T'.cells⟩
      · rename_i ob p hx
        rw [hx] at hv
        split at h
        · rename_i d0 v hob
          split at h
          · rename_i q hq2
            obtain ⟨o1, d1⟩ := q
            obtain ⟨hde, hk⟩ := cond_some h
            simp only [decide_eq_true_eq] at hde
            subst hde
            obtain ⟨b, o1', d1', hm, hoff1, e⟩ := hv.ptr hob
            rw [hq2] at hoff1
            simp only [Option.some.injEq, Prod.mk.injEq] at hoff1
            obtain ⟨rfl, rfl⟩ := hoff1
            refine .plain hk (hrun b o1 e) (.of_one ?_ rfl rfl)
            simp only [CR, hob]
            exact ⟨_, rfl, rfl, b, o1 + off, d', hm, TD.off_snoc _ _ _ _ _ _ _ hq2 hq, rfl⟩
          · cases h
        · cases h
      · rename_i ob i p hx
        rw [hx] at hv
        split at h
        · rename_i T xs hob
          split at h
          · rename_i q hq2
            obtain ⟨o1, d1⟩ := q
            obtain ⟨hde, hk⟩ := cond_some h
            simp only [decide_eq_true_eq] at hde
            subst hde
            obtain ⟨b, ofs, n, c, o1', d1', hm, hoff1, hi, e⟩ := hv.elo hob
            rw [hq2] at hoff1
            simp only [Option.some.injEq, Prod.mk.injEq] at hoff1
            obtain ⟨rfl, rfl⟩ := hoff1
            simp only [TD.off, Option.map_eq_some_iff] at hq
            obtain ⟨⟨off', T'⟩, hq, e2⟩ := hq
            simp only [Prod.mk.injEq] at e2
            obtain ⟨rfl, rfl⟩ := e2
            refine .plain hk (hrun b _ e) (.of_one ?_ rfl rfl)
            simp only [CR, hob]
            exact ⟨_, rfl, rfl, b, ofs, n, c, o1 + off', T', hm, Ty.off_snoc _ _ _ _ _ _ _ hq2 hq, hi, by simp [Nat.add_assoc]⟩
          · cases h
        · cases h
      · cases h
  · cases h
theorem indexAddr_sound (hE : EnvTy P E) (hs : Slots w A S.ob μ S.slots a) (ho : Objs w A S.ob μ) {t : TypeId} {x y : Operand} (hop : o.op = .indexAddr t x y) (h : evP E o S al K = some r) : Right P w A μ S a o al K r := by
  simp only [evP, hop] at h
  have hv := hs.opd x
  have hi := hs.opd y
  split at h
  · rename_i U k n hU hy
    rw [hy] at hi
    have ei := hi.int
    obtain ⟨e, hte, heU, hpos⟩ := elem_some hE hU
    split at h
    · rename_i T xs hx
      rw [hx] at hv
      obtain ⟨hc, hk⟩ := cond_some h
      simp only [Bool.and_eq_true, decide_eq_true_eq] at hc
      obtain ⟨rfl, hin⟩ := hc
      obtain ⟨h0, h1⟩ := index_ok (a0 := ⟨0, 0, none⟩) hin
      obtain ⟨b, off, c, cx, ex, hn, hb, hdr, hl⟩ := DR.nth_el hv.sl h0 h1
      refine .plain (v := .pointer (some ⟨b, off + n.toNat * U.cells, none⟩)) hk ?_ (.of_one ?_ rfl rfl)
      · simp only [execOp, hop]
        refine run_val ?_
        rw [ex, ei]
        exact run_indexAt_slice hte heU h0 h1
      · simp only [CR]
        exact ⟨b, _, cx, rfl, hn, hb, hdr, hl⟩
    · rename_i ob hx
      rw [hx] at hv
      split at h
      · rename_i T xs hob
        obtain ⟨hc, hk⟩ := cond_some h
        simp only [Bool.and_eq_true, decide_eq_true_eq] at hc
        obtain ⟨rfl, hin⟩ := hc
        obtain ⟨h0, h1⟩ := index_ok (a0 := ⟨0, 0, none⟩) hin
        have hm := hv.row hob
        have hor := ho.each ob
        simp only [OR, hob] at hor
        rcases hor with ⟨hl0, _⟩ | ⟨b, off, c, cs, tt, hm', hheap, _, _, _, hel⟩
        · omega
        rw [hm'] at hm
        have hm : Value.slice (some ⟨b, off, none⟩) (List.length xs) c = a.eval x := hm.elim id (fun h => by cases h.1)
        refine .plain (v := .pointer (some ⟨b, off + n.toNat * U.cells, none⟩)) hk ?_ (.of_one ?_ rfl rfl)
        · simp only [execOp, hop]
          refine run_val ?_
          rw [← hm, ei]
          exact run_indexAt_slice hte heU h0 h1
        · simp only [CR, hob]
          refine ⟨_, rfl, rfl, b, off, _, c, 0, U, hm', ?_, h0, rfl⟩
          cases U <;> simp [Ty.off]
      · rename_i d0 v0 hob
        split at h
        · rename_i ds
          obtain ⟨hc, hk⟩ := cond_some h
          simp only [Bool.and_eq_true] at hc
          obtain ⟨hsl, hin⟩ := hc
          have hin2 : 0 ≤ n ∧ n < (ds.count : Int) := by simpa [inR] using hin
          obtain ⟨b, hm, ev, hones⟩ := hv.arr hob
          obtain ⟨d', hoff⟩ := TDs.off_ones (n := n.toNat) hones (by omega)
          have h1c := Ty.isSl_cells hsl
          refine .plain (v := .pointer (some ⟨b, 0 + n.toNat * U.cells, none⟩)) hk ?_ (.of_one ?_ rfl rfl)
          · simp only [execOp, hop]
            refine run_val ?_
            rw [ev, ei]
            exact run_indexAt_slice hte heU hin2.1 hin2.2
          · simp only [CR, hob]
            refine ⟨_, rfl, rfl, b, n.toNat, d', hm, hoff, ?_⟩
            rw [h1c, Nat.mul_one, Nat.zero_add]
        · cases h
      · cases h
    · rename_i ob l hh hx
      rw [hx] at hv
      split at h
      · rename_i T xs hob
        obtain ⟨hc, hk⟩ := cond_some h
        simp only [Bool.and_eq_true, decide_eq_true_eq] at hc
        obtain ⟨rfl, hin⟩ := hc
        have hin2 : 0 ≤ n ∧ n < hh - l := by simpa [inR] using hin
        obtain ⟨hra, ⟨g0, g1, g2⟩, _, hlen⟩ := ((ho.each ob).rowAt hob).sub (hv.subv hob)
        rcases hv.subv hob with ⟨_, _, rfl, rfl⟩ | ⟨b, off, n0, c, o2, hm, _, _, h2, ev, _, ho2⟩
        · omega
        have hc0 : c ≠ l.toNat := by
          rcases (ho.each ob).rowAt hob with ⟨_, _, e⟩ | ⟨b', off', c', cs, t, e, _, hlc, _⟩
          · rw [hm] at e; simp only [Value.slice.injEq] at e; omega
          · rw [hm] at e
            simp only [Value.slice.injEq] at e
            omega
        rw [ho2 hc0] at ev
        refine .plain (v := .pointer (some ⟨b, off + l.toNat * U.cells + n.toNat * U.cells, none⟩)) hk ?_ (.of_one ?_ rfl rfl)
        · simp only [execOp, hop]
          refine run_val ?_
          rw [ev, ei]
          exact run_indexAt_slice hte heU hin2.1 (by omega)
        · simp only [CR, hob]
          refine ⟨_, rfl, rfl, b, off, _, c, 0, U, hm, ?_, by omega, ?_⟩
          · cases U <;> simp [Ty.off]
          · rw [show (l + n).toNat = l.toNat + n.toNat from by omega, Nat.add_mul, Nat.add_zero, Nat.add_assoc]
      · cases h
    · cases h
  · cases h
end
end Go.Vm

/- Vm, part 9b: operations on maps that change nothing. Own work. -/
set_option linter.unusedVariables false
set_option linter.unusedSimpArgs false
set_option linter.unusedSectionVars false
namespace Go.Vm
variable [MonotC]
open Go.RowKit
section
variable {w : World} {A : Nat → Prop} {ob : Nat → OB} {μ : Nat → Value}
theorem Ents.len {K V : Ty} : ∀ {l : List (K.den × V.den × Nat)} {m : List MapEntry}, Ents w A K V l m → l.length = m.length
  | [], m, h => by simp only [Ents] at h; subst h; rfl
  | x :: l, m, h => by
    simp only [Ents] at h
    obtain ⟨e, r, rfl, _, _, _, _, _, h6⟩ := h
    simp [Ents.len h6]
theorem explode_isAgg : ∀ (T : Ty) (x : T.den), (explode T x).isAgg = T.isAgg
  | .int _, _ => rfl | .bool, _ => rfl | .str, _ => rfl | .slice _, _ => rfl | .struct _, _ => rfl
theorem VR.data {T : Ty} {x : T.den} {v : Value} (h : DR w A T x v.cells.toList) (h2 : aggV v = T.isAgg) : VR w A ob μ (explode T x) v :=
  .inr ⟨explode_sound _ _ _ h, by rw [explode_isAgg, h2]⟩
theorem implode_isAgg {T : Ty} {v : PV} {y : T.den} (h : implode T v = some y) : v.isAgg = T.isAgg ∧ v.isAny = false := by
  cases T with
  | int k => simp only [implode] at h; have := asInt?_some h; subst this; exact ⟨rfl, rfl⟩
  | bool => simp only [implode] at h; have := asBool?_some h; subst this; exact ⟨rfl, rfl⟩
  | str => simp only [implode] at h; have := asStr?_some h; subst this; exact ⟨rfl, rfl⟩
  | slice t => simp only [implode] at h; rcases asSl?_some h with e | ⟨e, _⟩ <;> subst e <;> exact ⟨rfl, rfl⟩
  | struct fs =>
    simp only [implode] at h
    split at h
    · rename_i hl; have := asAgg?_some hl; subst this; exact ⟨rfl, rfl⟩
    · cases h
theorem VR.implode' {T : Ty} {v : PV} {y : T.den} {x : Value} (h : implode T v = some y) (hv : VR w A ob μ v x) : KeyR w A T y x := by
  obtain ⟨h1, h2⟩ := implode_isAgg h
  rcases hv with hv | ⟨hv, hv2⟩
  · rw [h2] at hv; cases hv
  · exact ⟨implode_sound _ _ _ _ h hv, hv2.trans h1⟩
theorem VR.mp {o : Nat} {x : Value} (h : VR w A ob μ (.mp o) x) {K V : Ty} {c : MapC K V} (ho : ob o = .map K V c) : μ o = x := by
  rcases h with h | ⟨h, h2⟩
  · cases h
  · rw [cells_one h2] at h
    simp only [CR, ho] at h
    obtain ⟨v, e, _, h⟩ := h
    simp at e; rw [h, e]
theorem VR.it {o : Nat} {x : Value} (h : VR w A ob μ (.it o) x) {m : Nat} {K V : Ty} {n : Nat} {l : List Nat} {c : Option (K.den × V.den)} (ho : ob o = .iter m K V n l c) : μ o = x := by
  rcases h with h | ⟨h, h2⟩
  · cases h
  · rw [cells_one h2] at h
    simp only [CR, ho] at h
    obtain ⟨v, e, _, h⟩ := h
    simp at e; rw [h, e]
theorem castM_some {K V K' V' : Ty} {c : MapC K V} {c' : MapC K' V'} (h : castM K V K' V' c = some c') : ∃ (e1 : K = K') (e2 : V = V'), e1 ▸ e2 ▸ c = c' := by
  unfold castM at h
  split at h
  · rename_i e
    simp only [Option.some.injEq] at h
    exact ⟨e.1, e.2, h⟩
  · cases h
/-- what a map's value is -/
def MapV (w : World) (A : Nat → Prop) (K V : Ty) (c : MapC K V) (x : Value) : Prop :=
  (x = .map none ∧ c = ([], 0)) ∨ ∃ b mes, x = .map (some b) ∧ w.heap[b]? = some (.map mes c.2) ∧ Ents w A K V c.1 mes.toList
theorem mapOf_some {S : St} (hO : Objs w A S.ob μ) {K V : Ty} {pv : PV} {c : MapC K V} {x : Value} (h : mapOf S K V pv = some c) (hv : VR w A S.ob μ pv x) : MapV w A K V c x := by
  unfold mapOf at h
  split at h
  · split at h
    · simp only [Option.some.injEq] at h
      exact .inl ⟨hv.nilc, h.symm⟩
    · cases h
  · rename_i o
    split at h
    · rename_i K' V' c' hob
      obtain ⟨e1, e2, e3⟩ := castM_some h
      subst e1; subst e2; subst e3
      have hm := hv.mp hob
      have hor := hO.each o
      simp only [OR, hob] at hor
      obtain ⟨b, mes, h1, h2, h3, _⟩ := hor
      exact .inr ⟨b, mes, by rw [← hm, h1], h2, h3⟩
    · cases h
  · cases h
theorem Keep.obj (M : Nat → Prop) (w : World) (o : Obj) (hn : ∀ cs t f, o ≠ .cells cs t f) : Keep M w (w.alloc o) := by
  refine ⟨rfl, rfl, rfl, by simp, fun _ => Nat.le_refl _, fun a _ _ => ?_, fun b hb _ => Below.heap_alloc w _ b hb, fun b cs t z h => ⟨cs, z, by rw [Below.heap_alloc w _ b (heap_lt h)]; exact h⟩⟩
  by_cases h : a.block = w.heap.size
  · have e1 : (w.alloc o).heap[a.block]? = some o := by rw [h]; exact alloc_at _ _
    have e2 : w.heap[a.block]? = none := by rw [h]; simp
    unfold World.frozen?
    rw [e1, e2]
    cases o <;> first | rfl | exact absurd rfl (hn _ _ _)
  · exact World.frozen?_alloc_old _ _ _ h
end
section
variable {P : Program} {E : Env} {w : World} {A : Nat → Prop} {μ : Nat → Value} {S : St} {a : Act} {o : Oper} {al : Nat} {ρ : Type} {r : ρ} {K : PV → Option OB → Option ρ}
theorem zero_val {e : TypeId} {V : Ty} (h : TyOK P e V) : ∃ z, (zeroValue e).run P w = .ok z w ∧ KeyR w A V V.dflt z := by
  obtain ⟨i, h1, h2, h3, _⟩ := h.info
  refine ⟨_, run_zeroValue' ⟨i, h1, h3⟩, ?_⟩
  have hd := dflt_sound (w := w) (A := A) V
  have hl := DR.len _ _ _ hd
  cases hv : V.isAgg
  · have : V.cells = 1 := Ty.cells_one hv
    rw [this] at hl
    obtain ⟨x, hx⟩ : ∃ x, zeroV V = [x] := by
      match hz : zeroV V, hl with
      | [x], _ => exact ⟨x, rfl⟩
    rw [hx] at hd ⊢
    have ha : aggV x = false := by
      cases V <;> simp [zeroV] at hx <;> first | (subst hx; rfl) | (cases hv)
    simp only [wrapV, Bool.false_eq_true, if_false, List.headD_cons]
    exact ⟨by rw [cells_one ha]; exact hd, by rw [ha, hv]⟩
  · simp only [wrapV, if_true]
    exact ⟨by simpa [Value.cells] using hd, by simp [aggV, hv]⟩
theorem lookup_sound (hE : EnvTy P E) (hs : Slots w A S.ob μ S.slots a) (ho : Objs w A S.ob μ) {t : TypeId} {m k : Operand} {ok : Bool} (hop : o.op = .lookup t m k ok) (h : evP E o S al K = some r) : Right P w A μ S a o al K r := by
  simp only [evP, hop] at h
  split at h
  · rename_i T U hd
    have hdd := hE _ _ hd
    simp only [TDOK] at hdd
    obtain ⟨_, kt, et, hu, hT, hU, hflat, hht⟩ := hdd
    obtain ⟨c, hc, h⟩ := optK_some h
    obtain ⟨key, hkey, h⟩ := optK_some h
    have hm := mapOf_some ho hc (hs.opd m)
    have hk := VR.implode' hkey (hs.opd k)
    obtain ⟨z, hz1, hz2⟩ := zero_val (w := w) (A := A) hU
    have hck := fun e => checkKey_ok (P := P) (w := w) (A := A) T kt key _ 9999 e hT hflat hk.1 (by omega)
    rw [← val_wrap hk.2] at hck
    have main : ∃ v, (Instr.lookup t (a.eval m) (a.eval k) ok).run P w = .ok (if ok then .tuple #[v, .bool (mhas (keq T) key c.1)] else v) w ∧ KeyR w A U (mget (keq T) U.dflt key c.1) v := by
      rcases hm with ⟨e1, e2⟩ | ⟨b, mes, e1, hb, hent⟩
      · subst e2
        refine ⟨z, ?_, hz2⟩
        rw [e1]
        simp [Instr.lookup, Sem.run_bind, run_underlying hu, Result.andThen_ok, hck, Instr.findKey, Instr.findNow, hz1, mhas]
        cases hu2 : P.underlying kt with
        | none =>
          exfalso
          cases T <;> simp only [TyOK] at hT
          · rw [hT.2] at hu2; cases hu2
          · rw [hT.2] at hu2; cases hu2
          · rw [hT.2] at hu2; cases hu2
          · obtain ⟨_, _, h9, _⟩ := hT; rw [h9] at hu2; cases hu2
          · obtain ⟨_, _, h9, _⟩ := hT; rw [h9] at hu2; cases hu2
        | some d => simp [run_underlying hu2, Result.andThen_ok, hz1]
      · obtain ⟨r', h1, h2⟩ := findKey_ok hT hflat hht hk hent
        rw [e1]
        rcases h2.spec with ⟨rfl, s1, s2, _⟩ | ⟨es1, x, es2, ms1, e, ms2, g1, g2, g3, g4, rfl, s1, s2, _⟩
        · refine ⟨z, ?_, by simpa [mget, s2] using hz2⟩
          simp [Instr.lookup, Sem.run_bind, run_underlying hu, Result.andThen_ok, hck, MapKept.run_getObj_map hb, h1, hz1, s1]
        · refine ⟨e.val, ?_, ?_⟩
          · simp [Instr.lookup, Sem.run_bind, run_underlying hu, Result.andThen_ok, hck, MapKept.run_getObj_map hb, h1, s1]
          · simp only [mget, s2, Option.getD_some]
            rw [g1, g2] at hent
            have : ∀ (es1 : List (T.den × U.den × Nat)) (ms1 : List MapEntry), es1.length = ms1.length → Ents w A T U (es1 ++ x :: es2) (ms1 ++ e :: ms2) → KeyR w A U x.2.1 e.val := by
              intro es1
              induction es1 with
              | nil =>
                intro ms1 hl he
                cases ms1 with
                | nil =>
                  simp only [List.nil_append, Ents] at he
                  obtain ⟨e', r', h0, _, _, h3, h4, _⟩ := he
                  simp only [List.cons.injEq] at h0
                  rw [h0.1]; exact ⟨h3, h4⟩
                | cons y ms1 => simp at hl
              | cons y es1 ih =>
                intro ms1 hl he
                cases ms1 with
                | nil => simp at hl
                | cons z ms1 =>
                  simp only [List.cons_append, Ents] at he
                  obtain ⟨e', r', h0, _, _, _, _, _, h6⟩ := he
                  simp only [List.cons.injEq] at h0
                  rw [← h0.2] at h6
                  exact ih ms1 (by simpa using hl) h6
            exact this es1 ms1 g3 hent
    obtain ⟨v, hrun, hv⟩ := main
    cases ok
    · simp only [cond_false] at h
      exact .plain h (by simp only [execOp, hop]; exact run_val hrun) (.data hv.1 hv.2)
    · simp only [cond_true] at h
      refine .plain h (by simp only [execOp, hop]; exact run_val hrun) ?_
      refine .of_one ?_ rfl rfl
      simp only [if_true, CR, TRs]
      exact ⟨_, rfl, _, _, rfl, VR.data hv.1 hv.2, _, _, rfl, .inr ⟨rfl, rfl⟩, rfl⟩
  · cases h
theorem nilCheck_sound (hs : Slots w A S.ob μ S.slots a) (ho : Objs w A S.ob μ) {x : Operand} (hop : o.op = .nilCheck x) (h : evP E o S al K = some r) : Right P w A μ S a o al K r := by
  simp only [evP, hop] at h
  have hx := hs.opd x
  split at h
  · rename_i ob p hp
    rw [hp] at hx
    split at h
    · rename_i d v hob
      obtain ⟨b, off, d', _, _, e⟩ := hx.ptr hob
      exact .plain h (by simp [execOp, hop, e]) hx
    · cases h
  · rename_i T y hp
    rw [hp] at hx
    obtain ⟨b, off, cx, e, _⟩ := hx.el
    exact .plain h (by simp [execOp, hop, e]) hx
  · rename_i ob i p hp
    rw [hp] at hx
    split at h
    · rename_i T xs hob
      obtain ⟨b, off, n, c, o2, T', _, _, _, e⟩ := hx.elo hob
      exact .plain h (by simp [execOp, hop, e]) hx
    · cases h
  · cases h
theorem makeMap_sound (hE : EnvTy P E) (hs : Slots w A S.ob μ S.slots a) {t : TypeId} {n : Option Operand} (hop : o.op = .makeMap t n) (h : evP E o S al K = some r) : Right P w A μ S a o al K r := by
  simp only [evP, hop] at h
  split at h
  · rename_i T U hd
    have hdd := hE _ _ hd
    simp only [TDOK] at hdd
    obtain ⟨_, kt, et, hu, hT, hU, hflat, hht⟩ := hdd
    have hq : ∀ (hrun : (execOp a.eval o).run P w = .ok (.value (.map (some w.heap.size))) (w.alloc (.map #[] 0))), QR w A S.ob μ al ((execOp a.eval o).run P w) (.mp al) (some (.map T U ([], 0))) := by
      intro hrun
      rw [hrun]
      refine ⟨_, _, rfl, Keep.obj _ _ _ (fun _ _ _ e => by cases e), .map (some w.heap.size), fun x hx => ?_, ?_, ?_⟩
      · simp only [blkOf, Option.some.injEq] at hx; subst hx; simp
      · unfold OR
        rw [upd_same, upd_same]
        exact ⟨_, _, rfl, alloc_at _ _, by simp [Ents], by simp [BornOK]⟩
      · refine .of_one ?_ rfl rfl
        simp only [CR, upd_same]
        exact ⟨_, rfl, rfl, rfl⟩
    split at h
    · refine ⟨_, _, h, hq ?_⟩
      simp only [execOp, hop]
      refine run_val ?_
      simp [Instr.makeMap, Sem.run_bind, newObj, Sem.run, Result.andThen_ok]
    · rename_i n
      have hn := hs.opd n
      split at h
      · rename_i kk nn hnn
        rw [hnn] at hn
        have e := hn.int
        refine ⟨_, _, h, hq ?_⟩
        simp only [execOp, hop]
        refine run_val ?_
        simp [Instr.makeMap, e, asInt, asIntOf, Sem.run_bind, run_underlying hu, newObj, Sem.run, Result.andThen_ok]
      · cases h
  · cases h
theorem range_sound (hE : EnvTy P E) (hs : Slots w A S.ob μ S.slots a) (ho : Objs w A S.ob μ) (hf : ∀ pv b, K pv (some b) = some r → Fresh S al) {t : TypeId} {x : Operand} (hop : o.op = .range t x) (h : evP E o S al K = some r) : Right P w A μ S a o al K r := by
  simp only [evP, hop] at h
  split at h
  · rename_i T U hd
    have hdd := hE _ _ hd
    simp only [TDOK] at hdd
    obtain ⟨_, kt, et, hu, hT, hU, hflat, hht⟩ := hdd
    have hx := hs.opd x
    split at h
    · rename_i m hm
      rw [hm] at hx
      split at h
      · rename_i T' U' c hob
        obtain ⟨hc, h⟩ := cond_some h
        simp only [Bool.and_eq_true, decide_eq_true_eq] at hc
        obtain ⟨rfl, rfl⟩ := hc
        have hfr := hf _ _ h
        have hmv := hx.mp hob
        have hor := ho.each m
        simp only [OR, hob] at hor
        obtain ⟨b, mes, h1, h2, h3⟩ := hor
        have hne : m ≠ al := fun e => by have := hfr.dead; rw [← e, hob] at this; cases this
        refine ⟨_, _, h, ?_⟩
        have hrun : (execOp a.eval o).run P w = .ok (.value (.pointer (some ⟨w.heap.size, 0, none⟩))) (w.alloc (.mapIter (some b) c.2 #[] c.2)) := by
          simp only [execOp, hop]
          refine run_val ?_
          rw [← hmv, h1]
          simp [Instr.range, Sem.run_bind, run_underlying hu, MapKept.run_getObj_map h2, newObj, Sem.run, Result.andThen_ok]
        rw [hrun]
        refine ⟨_, _, rfl, Keep.obj _ _ _ (fun _ _ _ e => by cases e), .pointer (some ⟨w.heap.size, 0, none⟩), fun x hx => ?_, ?_, ?_⟩
        · simp only [blkOf, Option.some.injEq] at hx; subst hx; simp
        · unfold OR
          rw [upd_same, upd_same]
          refine ⟨_, rfl, by simp, fun _ => ⟨b, mes, by rw [upd_other _ _ hne]; exact h1, alloc_at _ _, ?_, fun kv e => by cases e⟩⟩
          rw [Below.heap_alloc w _ b (by
            rcases Nat.lt_or_ge b w.heap.size with g | g
            · exact g
            · rw [Array.getElem?_eq_none g] at h2; cases h2)]
          exact h2
        · refine .of_one ?_ rfl rfl
          simp only [CR, upd_same]
          exact ⟨_, rfl, rfl, rfl⟩
      · cases h
    · cases h
  · cases h
theorem entry_sound (hE : EnvTy P E) (hs : Slots w A S.ob μ S.slots a) (ho : Objs w A S.ob μ) {x : Operand} (hop : o.op = .entry x) (h : evP E o S al K = some r) : Right P w A μ S a o al K r := by
  simp only [evP, hop] at h
  have hx := hs.opd x
  split at h
  · rename_i i hi
    rw [hi] at hx
    split at h
    · rename_i m T U n l cur hob
      obtain ⟨hal, h⟩ := cond_some h
      obtain ⟨kv, hkv, h⟩ := optK_some h
      have hmv := hx.it hob
      have hor := ho.each i
      simp only [OR, hob] at hor
      obtain ⟨b, h1, _, h2⟩ := hor
      obtain ⟨bm, mes, h3, h4, h5, h6⟩ := h2 hal
      obtain ⟨s, e, g1, g2, g3, g4, g5, g6⟩ := h6 kv hkv
      refine .plain (v := .tuple #[e.key, e.val]) h ?_ ?_
      · simp only [execOp, hop]
        refine run_val ?_
        rw [← hmv, h1]
        have hb : l.toArray.back? = some s := by simpa using g1
        simp [Instr.entry, Sem.run_bind, getObj, Sem.run, h4, h5, Result.andThen_ok, hb, g2]
      · refine .of_one ?_ rfl rfl
        simp only [CR, TRs]
        exact ⟨_, rfl, _, _, rfl, VR.data g3 g4, _, _, rfl, VR.data g5 g6, rfl⟩
    · cases h
  · cases h
end
end Go.Vm

/- Vm, part 9: 'evP' is right: the other operations. Own work. -/
set_option linter.unusedVariables false
set_option linter.unusedSimpArgs false
set_option linter.unusedSectionVars false
namespace Go.Vm
variable [MonotC]
open Go.RowKit

section
variable {P : Program} {E : Env} {w : World} {A : Nat → Prop} {μ : Nat → Value} {S : St} {a : Act} {o : Oper} {al : Nat} {ρ : Type} {r : ρ} {K : PV → Option OB → Option ρ}
theorem run_newRow' (t : TypeId) (cs : Array Value) : (newRow t cs).run P w = .ok ⟨w.heap.size, 0, none⟩ (w.alloc (.cells cs t (0, 0))) := by
  simp [newRow, newObj, Sem.run_bind, Result.andThen, Sem.run]
theorem wrapV_cells {agg : Bool} {cs : List Value} (h : agg = false → ∃ x, cs = [x] ∧ aggV x = false) : (wrapV agg cs).cells = cs.toArray := by
  cases agg
  · obtain ⟨x, rfl, hx⟩ := h rfl
    simp [wrapV, cells_one hx]
  · simp [wrapV, Value.cells]
theorem zeroV_leaf : ∀ {T : Ty}, T.isAgg = false → ∃ x, zeroV T = [x] ∧ aggV x = false
  | .int _, _ => ⟨_, rfl, rfl⟩ | .bool, _ => ⟨_, rfl, rfl⟩ | .str, _ => ⟨_, rfl, rfl⟩ | .slice _, _ => ⟨_, rfl, rfl⟩ | .struct _, h => by cases h
theorem TD.zeroV_leaf : ∀ {d : TD}, d.isAgg = false → ∃ x, d.zeroV = [x] ∧ aggV x = false
  | .data T, h => Vm.zeroV_leaf h | .cell k, _ => ⟨_, rfl, by cases k <;> rfl⟩ | .agg _, h => by cases h | .map _ _, _ => ⟨_, rfl, rfl⟩
theorem zeroOf_oids : ∀ (d : TD), d.zero.oids = [] := by
  intro d
  exact TD.rec (motive_1 := fun d => d.zero.oids = []) (motive_2 := fun l => PV.oidsL l.zero = [])
    (fun T => by
      simp only [TD.zero]
      exact Ty.rec (motive_1 := fun T => (zeroOf T).oids = []) (motive_2 := fun l => PV.oidsL (zerosOf l) = [])
        (fun _ => rfl) rfl rfl (fun _ _ => rfl) (fun fs h => by simpa only [zeroOf, PV.oids] using h) rfl
        (fun t ts h1 h2 => by simp only [zerosOf, PV.oidsL, h1, h2, List.append_nil]) T)
    (fun _ => rfl) (fun l h => by simpa only [TD.zero, PV.oids] using h) (fun _ _ => rfl) rfl
    (fun d l h1 h2 => by simp only [TDs.zero, PV.oidsL, h1, h2, List.append_nil]) d

theorem _root_.Go.Vm.TRs.get {ob : Nat → OB} : ∀ {l : List PV} {vs : Array Value} {i : Nat}, TRs w A ob μ l vs.toList → i < l.length → ∃ z, vs[i]? = some z ∧ VR w A ob μ (l.getD i .any) z := by
  have aux : ∀ (l : List PV) (vs : List Value) (i : Nat), TRs w A ob μ l vs → i < l.length → ∃ z, vs[i]? = some z ∧ VR w A ob μ (l.getD i .any) z := by
    intro l
    induction l with
    | nil => intro vs i h hi; simp at hi
    | cons v l ih =>
      intro vs i h hi
      simp only [TRs] at h
      obtain ⟨x, r, rfl, h1, h2⟩ := h
      cases i with
      | zero => exact ⟨x, rfl, h1⟩
      | succ n => exact ih r n h2 (by simpa using hi)
  intro l vs i h hi
  obtain ⟨z, hz, hv⟩ := aux l vs.toList i h hi
  exact ⟨z, by simpa using hz, hv⟩
theorem _root_.Go.Vm.Slots.trs (hs : Slots w A S.ob μ S.slots a) : ∀ (l : List Operand), TRs w A S.ob μ (l.map (opd S)) (l.map a.eval)
  | [] => by simp [TRs]
  | x :: l => by
    simp only [List.map_cons, TRs]
    exact ⟨_, _, rfl, hs.opd x, hs.trs l⟩
theorem isStr_some {t : Nat} (hE : EnvTy P E) (h : E.isStr t = true) : P.underlying t = some .string := by
  unfold Env.isStr at h
  split at h
  · rename_i hd
    have := hE _ _ hd
    simp only [TDOK, TyOK] at this
    exact this.2
  · cases h
theorem eqGuard_const {t : TypeId} {x y : Operand} (op : BinOp) (hc : isConstO x = true ∨ isConstO y = true) : (eqGuard op t x y .nilIface .nilIface).run P w = .ok () w := by
  unfold eqGuard
  cases op <;> simp [Result.andThen] <;> cases x <;> cases y <;> simp_all [isConstO]
theorem small_sound (hE : EnvTy P E) (hs : Slots w A S.ob μ S.slots a) (ho : Objs w A S.ob μ) (hf : ∀ pv b, K pv (some b) = some r → Fresh S al)
    (hop : match o.op with | .move _ | .assign _ | .pick _ _ _ | .binOp _ _ _ _ _ | .unOp _ _ _ | .convert _ _ _ | .alloc _ | .box _ _ | .extract _ _ | .makeFunc _ _ _ | .index _ _ _ => True | _ => False)
    (h : evP E o S al K = some r) : Right P w A μ S a o al K r := by
  unfold evP at h
  split at h <;> rename_i hx <;> simp only [hx] at hop
  · exact .plain h (by simp [execOp, hx]) (hs.opd _)
  · exact .plain h (by simp [execOp, hx]) (hs.opd _)
  · rename_i c x y
    have hc := hs.opd c
    split at h
    · rename_i v hv
      rw [hv] at hc
      have e := hc.bool
      cases v
      · exact .plain h (by simp [execOp, hx, e, asBool]) (hs.opd y)
      · exact .plain h (by simp [execOp, hx, e, asBool]) (hs.opd x)
    · cases h
  · rename_i op t x y yt
    cases hif : E.isIf t
    rotate_left
    · rw [hif, cond_true] at h
      unfold ifEq at h
      obtain ⟨hc, h⟩ := cond_some h
      rw [Bool.and_eq_true, Bool.and_eq_true] at hc
      obtain ⟨hcc, hn1, hn2⟩ := hc
      have hx1 := hs.opd x
      have hy1 := hs.opd y
      have nv : ∀ {p : PV} {z : Value}, p.nilIf = true → VR w A S.ob μ p z → z = .nilIface := fun {p z} hp hv => by
        unfold PV.nilIf at hp
        split at hp
        · split at hp
          · exact hv.nilc
          · cases hp
        · cases hp
      have e1 := nv hn1 hx1
      have e2 := nv hn2 hy1
      have hund : ∃ ms, P.underlying t = some (.interface ms) := by
        unfold Env.isIf at hif
        split at hif
        · rename_i k hd
          split at hif
          · have := hE _ _ hd
            simp only [TDOK] at this
            obtain ⟨_, d, hd, hm⟩ := this
            cases d <;> simp at hm
            exact ⟨_, hd⟩
          · cases hif
        · cases hif
      obtain ⟨ms, hund⟩ := hund
      have hg : ∀ op, (eqGuard op t x y .nilIface .nilIface).run P w = .ok () w := fun op => eqGuard_const op (by rwa [Bool.or_eq_true] at hcc)
      have h9 : ∀ d, (Op.equalIn (d + 1) t .nilIface .nilIface).run P w = .ok true w := fun d => by
        simp [Op.equalIn, run_underlying hund]
      have heq : (binOp .eql t .nilIface .nilIface).run P w = .ok (.bool true) w ∧ (binOp .neq t .nilIface .nilIface).run P w = .ok (.bool false) w := by
        constructor <;> simp only [binOp] <;> simp [Op.equal, Op.maxDepth, h9 9999]
      split at h
      · exact .plain h (by simp only [execOp, hx, e1, e2]; exact run_val (by rw [Sem.run_bind, hg]; exact heq.1)) (.mk_bool _)
      · exact .plain h (by simp only [execOp, hx, e1, e2]; exact run_val (by rw [Sem.run_bind, hg]; exact heq.2)) (.mk_bool _)
      · cases h
    rw [hif, cond_false] at h
    obtain ⟨pv, z, hk, hrun, hv⟩ := bin_sound (P := P) h (hs.opd x) (hs.opd y) t x y (fun hb => by
      unfold Env.isBool at hb
      split at hb
      · rename_i hd
        have := hE _ _ hd
        simp only [TDOK, TyOK] at this
        exact this.2
      · cases hb) (fun hb => by
      unfold Env.isSl at hb
      split at hb
      · rename_i T hd
        obtain ⟨e, he, _⟩ := elem_some hE hd
        exact ⟨e, he⟩
      · cases hb) (fun T hT => by
      unfold Env.plainT at hT
      split at hT
      · rename_i T' hd
        cases hT
        have := hE _ _ hd
        simpa only [TDOK] using this
      · cases hT)
    exact .plain hk (by simp only [execOp, hx]; exact run_val hrun) hv
  · rename_i t x
    have hv := hs.opd x
    split at h
    · rename_i b hb
      rw [hb] at hv
      have e := hv.bool
      exact .plain h (by simp [execOp, hx, e, Op.unary]) (.mk_bool _)
    · cases h
  · rename_i t x
    have hv := hs.opd x
    split at h
    · rename_i k n hb
      rw [hb] at hv
      have e := hv.int
      exact .plain h (by simp [execOp, hx, e, Op.unary, Op.intArith]) (.mk_int _ _)
    · cases h
  · rename_i s t x
    have hv := hs.opd x
    split at h
    · rename_i d hd
      obtain ⟨sd, hsd, _⟩ := (hE _ _ hd).agg
      split at h
      · rename_i k0 n k hb ht
        rw [hb] at hv
        have e := hv.int
        have := hE _ _ ht
        simp only [TDOK, TyOK] at this
        exact .plain h (by simp [execOp, hx, e, convert, run_underlying hsd, run_underlying this.2, Result.andThen, Conv.intToInt]) (.mk_int _ _)
      · cases h
    · cases h
  · rename_i t
    split at h
    · rename_i d hd
      obtain ⟨hbt, h⟩ := cond_some h
      have hd' := hE _ _ hd
      obtain ⟨i, hi, hs1, hz, _⟩ := hd'.info
      have h2 := run_zeroValue' (w := w) ⟨i, hi, hz⟩
      have hcr := TD.zero_sound (w := w) (A := A) (ob := S.ob) (μ := μ) d
      refine ⟨_, _, h, ?_⟩
      have : (execOp a.eval o).run P w = .ok (.value (.pointer (some ⟨w.heap.size, 0, none⟩))) (w.alloc (.cells d.zeroV.toArray t (0, 0))) := by
        simp only [execOp, hx]
        refine run_val ?_
        simp only [Instr.alloc, newVar, Sem.run_bind, h2, Result.andThen, run_newRow', wrapV_cells TD.zeroV_leaf, Sem.run_pure]
      rw [this]
      exact .box (TD.fits_zero d) hcr (by rw [zeroOf_oids]; simp) (head_zero d _ hbt)
    · cases h
  · rename_i t x
    split at h
    · rename_i d hd
      have hd' := hE _ _ hd
      obtain ⟨hc, h⟩ := cond_some h
      simp only [Bool.and_eq_true, Bool.not_eq_true'] at hc
      obtain ⟨hisb, hfit, hany⟩ := hc
      have hv := hs.opd x
      refine ⟨_, _, h, ?_⟩
      have : (execOp a.eval o).run P w = .ok (.value (.pointer (some ⟨w.heap.size, 0, none⟩))) (w.alloc (.cells (a.eval x).cells t (0, 0))) := by
        simp only [execOp, hx]
        refine run_val ?_
        simp only [Instr.box, newVar, Sem.run_bind, Result.andThen, run_newRow', Sem.run_pure]
      rw [this]
      rcases hv with hv | hv
      · rw [hany] at hv; cases hv
      · have := QR.box (w := w) (A := A) (ob := S.ob) (μ := μ) (al := al) (t := t) hfit hv.1 (fun hm => (hf _ _ h).slots (opd_oids hm)) (.no hisb)
        simpa using this
    · cases h
  · rename_i t x y
    have hv := hs.opd x
    have hi := hs.opd y
    split at h
    · rename_i s k n hs' hy
      rw [hs'] at hv
      rw [hy] at hi
      have e1 := hv.str
      have e2 := hi.int
      obtain ⟨hc, h⟩ := cond_some h
      simp only [Bool.and_eq_true] at hc
      obtain ⟨hst, hin⟩ := hc
      obtain ⟨h0, h1⟩ := index_ok (a0 := ⟨0, 0, none⟩) hin
      have hu := isStr_some hE hst
      have hlt : n.toNat < s.size := by omega
      refine .plain h ?_ (.mk_int _ _)
      simp only [execOp, hx, e1, e2]
      refine run_val ?_
      simp only [Instr.index, asIntOf, Sem.run_bind, Sem.run_pure, Result.andThen, run_underlying hu, h0, if_true]
      have hg : s[n.toNat]? = some s[n.toNat] := by simp [hlt]
      simp only [hg, Sem.run_pure, bt]
      have : s.data.getD n.toNat 0 = s[n.toNat] := by
        simp only [Array.getD]
        rw [dif_pos (show n.toNat < s.data.size from hlt)]; rfl
      rw [this]
    · cases h
  · rename_i x i
    have hv := hs.opd x
    split at h
    · rename_i l hl
      rw [hl] at hv
      obtain ⟨vs, e, ht⟩ := hv.tup
      obtain ⟨hlt, h⟩ := cond_some h
      obtain ⟨z, hz, hvz⟩ := ht.get (by simpa using hlt)
      refine .plain h ?_ hvz
      simp only [execOp, hx, e]
      refine run_val ?_
      simp only [Instr.extract, hz, Sem.run_pure]
    · cases h
  · rename_i f first caps
    split at h
    · rename_i hfirst
      have hfe : first = #[] := by simpa using hfirst
      subst hfe
      refine .plain (v := .func (.func f) #[] (caps.map a.eval)) h ?_ (.of_one ?_ rfl rfl)
      · simp only [execOp, hx]
        refine run_val ?_
        simp [Instr.makeFunc]
      · simp only [CR]
        exact ⟨_, rfl, by simpa using hs.trs caps.toList⟩
    · cases h
  · cases h

/-! ### Structs and slices that are written out -/
theorem foldl_splice (cv : List Value) : ∀ (cs : Array Value) (off : Nat), off + cv.length ≤ cs.size → ((cv.zipIdx).foldl (fun cs (c, j) => cs.setIfInBounds (off + j) c) cs).toList = splice cs.toList off cv := by
  have aux : ∀ (cv : List Value) (k : Nat) (cs : Array Value) (off : Nat), off + k + cv.length ≤ cs.size →
      ((cv.zipIdx k).foldl (fun cs (c, j) => cs.setIfInBounds (off + j) c) cs).toList = splice cs.toList (off + k) cv := by
    intro cv
    induction cv with
    | nil => intro k cs off h; simp [splice]
    | cons v cv ih =>
      intro k cs off h
      simp only [List.zipIdx_cons, List.foldl_cons]
      rw [ih (k + 1) _ off (by simp at h ⊢; omega)]
      simp only [splice, Array.toList_setIfInBounds, List.length_cons]
      simp only [List.length_cons] at h
      apply List.ext_getElem?
      intro j
      have hs : cs.toList.length = cs.size := by simp
      simp only [List.getElem?_append, List.getElem?_take, List.getElem?_drop, List.length_take, List.length_set, List.getElem?_cons, List.getElem?_set, hs, List.length_cons]
      by_cases h1 : j < off + k
      · have e1 : j < min (off + (k + 1)) cs.size := by omega
        have e2 : j < min (off + k) cs.size := by omega
        rw [if_pos e1, if_pos (by omega), if_neg (by omega), if_pos e2, if_pos h1]
      · by_cases h2 : j = off + k
        · subst h2
          have e1 : off + k < min (off + (k + 1)) cs.size := by omega
          rw [if_pos e1, if_pos (by omega), if_pos rfl, if_pos (by omega), if_neg (by omega), if_pos (by omega), if_pos (by omega)]
        · have e1 : ¬ j < min (off + (k + 1)) cs.size := by omega
          have e2 : ¬ j < min (off + k) cs.size := by omega
          rw [if_neg e1, if_neg e2]
          have m1 : min (off + (k + 1)) cs.size = off + k + 1 := by omega
          have m2 : min (off + k) cs.size = off + k := by omega
          rw [m1, m2]
          by_cases h3 : j - (off + k + 1) < cv.length
          · rw [if_pos h3, if_pos (by omega), if_neg (by omega)]
            congr 1; try omega
          · rw [if_neg h3, if_neg (by omega), if_neg (by omega)]
            congr 1; try omega
  intro cs off h
  exact aux cv 0 cs off h
theorem fill_step {place : Nat → Option (Nat × Nat)} {cells : Array Value} {i : Nat} {v : Value} {rest : List (Nat × Value)} {off : Nat} (hp : place i = some (off, v.cells.size)) (hb : off + v.cells.size ≤ cells.size) :
    Instr.fill place cells ((i, v) :: rest) = Instr.fill place (splice cells.toList off v.cells.toList).toArray rest := by
  have hne : (v.cells.size != v.cells.size || decide (off + v.cells.size > cells.size)) = false := by simp; omega
  simp only [Instr.fill, hp]
  rw [if_neg (by simp; omega)]
  congr 1
  have : (v.cells.zipIdx.foldl (fun cs (x : Value × Nat) => cs.setIfInBounds (off + x.2) x.1) cells) = (v.cells.toList.zipIdx.foldl (fun cs (x : Value × Nat) => cs.setIfInBounds (off + x.2) x.1) cells) := by
    rw [← Array.foldl_toList]; simp
  apply Array.ext'
  show (v.cells.zipIdx.foldl (fun cs (x : Value × Nat) => cs.setIfInBounds (off + x.2) x.1) cells).toList = _
  rw [this]
  simpa using foldl_splice v.cells.toList cells off (by simpa using hb)
theorem build_fill {place : Nat → Option (Nat × Nat)} {d : TD} (hp : ∀ i off d', d.off [i] = some (off, d') → place i = some (off, d'.cells)) (hs : Slots w A S.ob μ S.slots a) {K : PV → Option ρ} :
    ∀ (parts : List (Nat × Operand)) (v : PV) (cs : Array Value), d.fits v = true → CR w A S.ob μ v cs.toList → evP.buildK S d parts v K = some r →
      ∃ v' cs', K v' = some r ∧ Instr.fill place cs (parts.map fun p => (p.1, a.eval p.2)) = some cs' ∧ d.fits v' = true ∧ CR w A S.ob μ v' cs'.toList
  | [], v, cs, hf, hc, h => ⟨v, cs, by simpa only [evP.buildK] using h, rfl, hf, hc⟩
  | p :: l, v, cs, hf, hc, h => by
    simp only [evP.buildK] at h
    split at h
    · rename_i q hq
      obtain ⟨off, d'⟩ := q
      obtain ⟨hc2, h⟩ := cond_some h
      simp only [Bool.and_eq_true, Bool.not_eq_true'] at hc2
      obtain ⟨hfit, hany⟩ := hc2
      have hv := hs.opd p.2
      rcases hv with hv | hv
      · rw [hany] at hv; cases hv
      · have hlx := TD.fits_len _ _ _ hfit hv.1
        obtain ⟨h1, h2, h3, h4⟩ := TD.path_sound d [p.1] v cs.toList off d' hf hc hq
        obtain ⟨h5, h6⟩ := h4 _ _ hfit hv.1
        have hl := TD.fits_len _ _ _ hf hc
        obtain ⟨v', cs', h7, h8, h9, h10⟩ := build_fill hp hs l _ (splice cs.toList off (a.eval p.2).cells.toList).toArray h6 (by simpa using h5) h
        refine ⟨v', cs', h7, ?_, h9, h10⟩
        simp only [List.map_cons]
        rw [fill_step (off := off) (by rw [hp _ _ _ hq]; simp at hlx; rw [hlx]) (by simp at hlx hl; omega)]
        exact h8
    · cases h
theorem tys_places : ∀ (fields : List Field) (fs : Tys) (base : Nat), TysOK P fields base fs → ∃ places, fields.mapM (fun f => (P.info? f.type).map fun i => (f.offset, i.size)) = some places ∧
    ∀ i off T, Ty.off.go fs i [] = some (off, T) → places[i]? = some (base + off, T.cells)
  | [], .nil, _, _ => ⟨[], by simp, fun _ _ _ h => by simp [Ty.off.go] at h⟩
  | _ :: _, .nil, _, h => by simp [TysOK] at h
  | [], .cons _ _, _, h => by simp [TysOK] at h
  | f :: l, .cons t ts, base, h => by
    simp only [TysOK] at h
    obtain ⟨ho, hp, ht, hl⟩ := h
    obtain ⟨i, hi, hs, _⟩ := ht.info
    obtain ⟨places, h1, h2⟩ := tys_places l ts (base + t.cells) hl
    refine ⟨(f.offset, i.size) :: places, by simp [List.mapM_cons, hi, h1], fun n off T h => ?_⟩
    cases n with
    | zero =>
      have : off = 0 ∧ t = T := by cases t <;> (simp only [Ty.off.go, Ty.off, Option.some.injEq, Prod.mk.injEq] at h; exact ⟨h.1.symm, h.2⟩)
      obtain ⟨rfl, rfl⟩ := this
      simp [ho, hs]
    | succ n =>
      simp only [Ty.off.go, Option.map_eq_some_iff] at h
      obtain ⟨⟨off', T'⟩, h, e⟩ := h
      simp only [Prod.mk.injEq] at e
      obtain ⟨rfl, rfl⟩ := e
      have := h2 n off' T' h
      simpa [Nat.add_assoc] using this
theorem tds_places : ∀ (fields : List Field) (fs : TDs) (base : Nat), TDsOK P fields base fs → ∃ places, fields.mapM (fun f => (P.info? f.type).map fun i => (f.offset, i.size)) = some places ∧
    ∀ i off T, TD.off.go fs i [] = some (off, T) → places[i]? = some (base + off, T.cells)
  | [], .nil, _, _ => ⟨[], by simp, fun _ _ _ h => by simp [TD.off.go] at h⟩
  | _ :: _, .nil, _, h => by simp [TDsOK] at h
  | [], .cons _ _, _, h => by simp [TDsOK] at h
  | f :: l, .cons t ts, base, h => by
    simp only [TDsOK] at h
    obtain ⟨ho, hp, ht, hl⟩ := h
    obtain ⟨i, hi, hs, _⟩ := ht.info
    obtain ⟨places, h1, h2⟩ := tds_places l ts (base + t.cells) hl
    refine ⟨(f.offset, i.size) :: places, by simp [List.mapM_cons, hi, h1], fun n off T h => ?_⟩
    cases n with
    | zero =>
      have : off = 0 ∧ t = T := by cases t <;> (simp only [TD.off.go, TD.off, Option.some.injEq, Prod.mk.injEq] at h; exact ⟨h.1.symm, h.2⟩)
      obtain ⟨rfl, rfl⟩ := this
      simp [ho, hs]
    | succ n =>
      simp only [TD.off.go, Option.map_eq_some_iff] at h
      obtain ⟨⟨off', T'⟩, h, e⟩ := h
      simp only [Prod.mk.injEq] at e
      obtain ⟨rfl, rfl⟩ := e
      have := h2 n off' T' h
      simpa [Nat.add_assoc] using this
theorem td_places {t : TypeId} {d : TD} (hd : TDOK P t d) (hag : d.isAgg = true) : ∃ fields places i, P.underlying t = some (.struct fields) ∧ P.info? t = some i ∧ i.zero = some (.agg d.zeroV.toArray) ∧
    fields.toList.mapM (fun f => (P.info? f.type).map fun i => (f.offset, i.size)) = some places ∧ ∀ i off d', d.off [i] = some (off, d') → places[i]? = some (off, d'.cells) := by
  obtain ⟨i, hi, _, hz, _⟩ := hd.info
  rw [hag] at hz
  cases d with
  | cell k => cases hag
  | map K V => cases hag
  | data T =>
    cases T <;> try cases hag
    simp only [TDOK, TyOK] at hd
    obtain ⟨_, fields, hu, hk⟩ := hd
    obtain ⟨places, h1, h2⟩ := tys_places _ _ _ hk.1
    refine ⟨fields, places, i, hu, hi, by simpa [wrapV] using hz, h1, fun n off d' h => ?_⟩
    simp only [TD.off, Ty.off, Option.map_eq_some_iff] at h
    obtain ⟨⟨off', T'⟩, h, e⟩ := h
    simp only [Prod.mk.injEq] at e
    obtain ⟨rfl, rfl⟩ := e
    simpa [TD.cells] using h2 n off' T' h
  | agg ds =>
    simp only [TDOK] at hd
    obtain ⟨_, fields, hu, hk⟩ := hd
    obtain ⟨places, h1, h2⟩ := tds_places _ _ _ hk
    refine ⟨fields, places, i, hu, hi, by simpa [wrapV] using hz, h1, fun n off d' h => ?_⟩
    simp only [TD.off] at h
    simpa using h2 n off d' h
theorem build_sound (hE : EnvTy P E) (hs : Slots w A S.ob μ S.slots a) {t : TypeId} {parts : Array (Nat × Operand)} (hop : o.op = .build t parts) (h : evP E o S al K = some r) : Right P w A μ S a o al K r := by
  simp only [evP, hop] at h
  split at h
  · rename_i d hd
    have hd' := hE _ _ hd
    obtain ⟨hag, h⟩ := cond_some h
    obtain ⟨fields, places, i, hu, hi, hz, hm, hpl⟩ := td_places hd' hag
    obtain ⟨v', cs', h1, h2, h3, h4⟩ := build_fill (place := (places.toArray[·]?)) (fun i off d' h => by simpa using hpl i off d' h) hs parts.toList d.zero d.zeroV.toArray (TD.fits_zero d) (by simpa using TD.zero_sound d) h
    refine .plain (v := .agg cs') h1 ?_ ?_
    · simp only [execOp, hop]
      refine run_val (run_build w t _ cs' ?_)
      simp only [Program.built, hi, hu, hz, hm]
      simpa [Value.cells] using h2
    · have := VR.of_cells h4 (TD.fits_agg h3)
      rw [hag] at this
      simpa [wrapV] using this
  · cases h
theorem VR.implode {ob : Nat → OB} {T : Ty} {v : PV} {x : T.den} {z : Value} (h : Vm.implode T v = some x) (hv : VR w A ob μ v z) : DR w A T x z.cells.toList := by
  rcases hv with hv | hv
  · cases v <;> try cases hv
    cases T <;> simp [Vm.implode, asInt?, asBool?, asStr?, asSl?, asAgg?] at h
  · exact implode_sound _ _ _ _ h hv.1
theorem getElem?_splice {cs cv : List Value} {off j : Nat} (h : off + cv.length ≤ cs.length) : (splice cs off cv)[j]? = if off ≤ j ∧ j < off + cv.length then cv[j - off]? else cs[j]? := by
  simp only [splice, List.getElem?_append, List.getElem?_take, List.getElem?_drop, List.length_take]
  by_cases h1 : j < off
  · rw [if_pos (by omega), if_pos h1, if_neg (by omega)]
  · rw [if_neg (by omega), show min off cs.length = off from by omega]
    by_cases h2 : j - off < cv.length
    · rw [if_pos h2, if_pos ⟨by omega, by omega⟩]
    · rw [if_neg h2, if_neg (by omega)]
      congr 1; omega
theorem parts_fill {T : Ty} (hs : Slots w A S.ob μ S.slots a) : ∀ (parts : List (Nat × Operand)) (i : Nat) (xs : List T.den) (cs : Array Value), evP.implodeParts S T i parts = some xs → (i + parts.length) * T.cells ≤ cs.size →
    ∃ cs', Instr.fill (fun i => some (i * T.cells, T.cells)) cs (parts.map fun p => (p.1, a.eval p.2)) = some cs' ∧ cs'.size = cs.size ∧ xs.length = parts.length ∧ (∀ j, j < i * T.cells → cs'[j]? = cs[j]?) ∧
      ∀ k x, nth (α := T.den) xs k = some x → ∃ cx, DR w A T x cx ∧ ∀ j v, cx[j]? = some v → cs'[(i + k) * T.cells + j]? = some v
  | [], i, xs, cs, h, hl => by
    simp only [evP.implodeParts, Option.some.injEq] at h
    subst h
    exact ⟨cs, rfl, rfl, rfl, fun _ _ => rfl, fun k x hk => by simp [nth] at hk⟩
  | p :: l, i, xs, cs, h, hl => by
    simp only [evP.implodeParts] at h
    obtain ⟨hi, h⟩ := cond_some h
    have hi' : p.1 = i := by simpa using hi
    obtain ⟨x, hx, h⟩ := Option.bind_eq_some_iff.1 h
    obtain ⟨ys, hy, h⟩ := Option.bind_eq_some_iff.1 h
    cases h
    have hdr := VR.implode hx (hs.opd p.2)
    have hlen := DR.len _ _ _ hdr
    have hlen' : (a.eval p.2).cells.size = T.cells := by simpa using hlen
    simp only [List.length_cons] at hl
    have hb : i * T.cells + T.cells ≤ cs.size := by
      have : (i + 1) * T.cells ≤ (i + (l.length + 1)) * T.cells := Nat.mul_le_mul_right _ (by omega)
      rw [Nat.succ_mul] at this
      omega
    have hsz : (splice cs.toList (i * T.cells) (a.eval p.2).cells.toList).length = cs.size := by
      rw [splice_len (by simp [hlen']; omega)]; simp
    obtain ⟨cs', h1, h2, h3, h4, h5⟩ := parts_fill hs l (i + 1) ys (splice cs.toList (i * T.cells) (a.eval p.2).cells.toList).toArray hy (by simp only [List.size_toArray, hsz]; rwa [show i + 1 + l.length = i + (l.length + 1) from by omega])
    refine ⟨cs', ?_, ?_, by simp [h3], fun j hj => ?_, fun k x' hk => ?_⟩
    · simp only [List.map_cons]
      rw [fill_step (off := i * T.cells) (by rw [hi', hlen']) (by rw [hlen']; omega)]
      exact h1
    · rw [h2]; simpa using hsz
    · rw [h4 j (by rw [Nat.succ_mul]; omega)]
      simp only [List.getElem?_toArray]
      rw [getElem?_splice (by simp [hlen']; omega), if_neg (by omega)]
      simp
    · cases k with
      | zero =>
        simp only [nth, List.getElem?_cons_zero, Option.some.injEq] at hk
        subst hk
        refine ⟨_, hdr, fun j v hj => ?_⟩
        have hjl : j < T.cells := by
          have := (List.getElem?_eq_some_iff.1 hj).1
          rw [hlen] at this; exact this
        rw [Nat.add_zero, h4 _ (by rw [Nat.succ_mul]; omega)]
        simp only [List.getElem?_toArray]
        rw [getElem?_splice (by simp [hlen']; omega), if_pos ⟨by omega, by simp [hlen']; omega⟩]
        rw [show i * T.cells + j - i * T.cells = j from by omega]
        exact hj
      | succ k =>
        have hk' : nth (α := T.den) ys k = some x' := by simpa [nth] using hk
        obtain ⟨cx, h6, h7⟩ := h5 k x' hk'
        exact ⟨cx, h6, fun j v hj => by rw [show i + (k + 1) = i + 1 + k from by omega]; exact h7 j v hj⟩
end
end Go.Vm

/- Vm, part 10: 'evP' is right: slices that are made or cut, built-in functions; all of it. Own work. -/
set_option linter.unusedVariables false
set_option linter.unusedSimpArgs false
set_option linter.unusedSectionVars false
namespace Go.Vm
variable [MonotC]
open Go.RowKit

section
variable {P : Program} {E : Env} {w : World} {A : Nat → Prop} {μ : Nat → Value} {S : St} {a : Act} {o : Oper} {al : Nat} {ρ : Type} {r : ρ} {K : PV → Option OB → Option ρ}
theorem zeroV_len : ∀ (T : Ty), (zeroV T).length = T.cells := fun T => DR.len (w := default) (A := None) T _ _ (dflt_sound T)
theorem buildSlice_sound (hE : EnvTy P E) (hs : Slots w A S.ob μ S.slots a) (hold : ∀ b, A b → b < w.heap.size) {t : TypeId} {len : Nat} {parts : Array (Nat × Operand)} (hop : o.op = .buildSlice t len parts) (h : evP E o S al K = some r) : Right P w A μ S a o al K r := by
  simp only [evP, hop] at h
  split at h
  · rename_i T hT
    obtain ⟨e, hte, heT, hpos⟩ := elem_some hE hT
    obtain ⟨hc, h⟩ := cond_some h
    simp only [Bool.and_eq_true, decide_eq_true_eq] at hc
    obtain ⟨hlen, hsm⟩ := hc
    have hlen' : parts.toList.length = len := by simpa using hlen
    obtain ⟨xs, hxs, hK⟩ := optK_some h
    obtain ⟨i, hi, hsz, hz, hby⟩ := heT.info
    have h2 := run_sizeOf' (w := w) (n := T.cells) ⟨i, hi, hsz⟩
    have h3 := run_zeroValue' (w := w) ⟨i, hi, hz⟩
    obtain ⟨cs', h4, h5, h6, _, h7⟩ := parts_fill (T := T) hs parts.toList 0 xs ((Array.range (len * T.cells)).map ((if len * T.cells = 0 then #[] else (zeroV T).toArray)[· % (if len * T.cells = 0 then #[] else (zeroV T).toArray).size]!)) hxs (by simp [hlen'])
    have hrun : (execOp a.eval o).run P w = .ok (.value (.slice (some ⟨w.heap.size, 0, none⟩) xs.length len)) (w.alloc (.cells cs' e (0, 0))) := by
      simp only [execOp, hop]
      refine run_val ?_
      rw [h6, hlen']
      simp only [Instr.buildSlice, Sem.run_bind, run_underlying hte, Result.andThen, h2]
      rw [if_neg (by omega)]
      have h4' : Instr.fill (fun i => some (i * T.cells, T.cells)) ((Array.range (len * T.cells)).map ((if len * T.cells = 0 then #[] else (zeroV T).toArray)[· % (if len * T.cells = 0 then #[] else (zeroV T).toArray).size]!)) ((parts.map fun (i, x) => (i, a.eval x)).toList) = some cs' := by
        rw [← h4]; simp
      by_cases h0 : len * T.cells = 0
      · rw [if_pos h0] at h4' ⊢
        simp only [Sem.run_bind, Sem.run_pure, Result.andThen]
        simp only [h4', Sem.run_bind, run_newRow', Result.andThen, Sem.run_pure]
      · rw [if_neg h0] at h4' ⊢
        simp only [Sem.run_bind, h3, Sem.run_pure, Result.andThen, wrapV_cells zeroV_leaf]
        simp only [h4', Sem.run_bind, run_newRow', Result.andThen, Sem.run_pure]
    have hx : len = xs.length := by omega
    subst hx
    have hlen2 : xs.length ≤ 9223372036854775807 := by
      have : xs.length * 1 ≤ xs.length * T.cells := Nat.mul_le_mul_left _ hpos
      omega
    have hel : ∀ (k : Nat) (x : T.den), nth (α := T.den) xs k = some x → ∃ cx, DR w A T x cx ∧ ∀ j v, cx[j]? = some v → cs'[k * T.cells + j]? = some v := fun k x hk => by
      obtain ⟨cx, h8, h9⟩ := h7 k x hk
      exact ⟨cx, h8, fun j v hj => by simpa using h9 j v hj⟩
    cases hlit : E.lit <;> rw [hlit] at hK
    · refine ⟨_, _, hK, ?_⟩
      rw [hrun]
      exact QR.row rfl (Nat.le_refl _) hlen2 (by rw [h5]; simp) hel
    · refine ⟨_, _, hK, ?_⟩
      rw [hrun]
      exact QR.slit hold rfl (Nat.le_refl _) hlen2 hel
  · cases h
theorem makeSlice_sound (hE : EnvTy P E) (hs : Slots w A S.ob μ S.slots a) {t : TypeId} {x y : Operand} (hop : o.op = .makeSlice t x y) (h : evP E o S al K = some r) : Right P w A μ S a o al K r := by
  simp only [evP, hop] at h
  have hx := hs.opd x
  have hy := hs.opd y
  split at h
  · rename_i T n m hT hn hm
    rw [hn] at hx
    rw [hm] at hy
    have e1 := hx.int
    have e2 := hy.int
    obtain ⟨e, hte, heT, hpos⟩ := elem_some hE hT
    obtain ⟨hc, hkk⟩ := cond_some h
    simp only [Bool.and_eq_true, decide_eq_true_eq] at hc
    obtain ⟨rfl, h0, hb⟩ := hc
    obtain ⟨i, hi, hsz, hz, hby⟩ := heT.info
    have h2 := run_sizeOf' (w := w) (n := T.cells) ⟨i, hi, hsz⟩
    have h3 := run_zeroValue' (w := w) ⟨i, hi, hz⟩
    obtain ⟨k, rfl⟩ := Int.eq_ofNat_of_zero_le h0
    have hk : k ≤ 4294967296 := by omega
    have hw : IntKind.i64.wrap (k : Int) = (k : Int) := IntWalk.i64_in _ (by omega)
    have hbytes : i.bytes * k ≤ 16384 * 4294967296 := Nat.mul_le_mul hby hk
    have hbi : (i.bytes : Int) * (k : Int) ≤ 70368744177664 := by
      have := Int.ofNat_le.2 hbytes
      simpa using this
    have ht : (decide ((k : Int) < 0) || decide ((i.bytes : Int) * (k : Int) > 2 ^ 48)) = false := by
      simp only [Bool.or_eq_false_iff, decide_eq_false_iff_not]
      constructor
      · omega
      · intro hh
        have : (2 : Int) ^ 48 = 281474976710656 := by decide
        omega
    have hrun : (execOp a.eval o).run P w = .ok (.value (.slice (some ⟨w.heap.size, 0, none⟩) (List.replicate k T.dflt).length k))
        (w.alloc (.cells ((Array.range (k * T.cells)).map ((if k * T.cells = 0 then #[] else (zeroV T).toArray)[· % (if k * T.cells = 0 then #[] else (zeroV T).toArray).size]!)) e (0, 0))) := by
      simp only [execOp, hop]
      refine run_val ?_
      have hroom : (askRoom (k * i.bytes)).run P w = .ok () w := by
        unfold askRoom
        rw [if_neg (by rw [Nat.mul_comm]; unfold roomBytes; omega)]
        simp
      rw [e1, e2]
      simp only [Instr.makeSlice, Sem.run_bind, run_underlying hte, Result.andThen, asInt, asIntOf, Sem.run_pure, typeInfo, run_program, hi, hw, ht]
      simp only [Bool.false_or, Bool.or_self, decide_false, gt_iff_lt, Int.lt_irrefl]
      rw [if_neg (by simp)]
      simp only [Sem.run_bind, Int.toNat_natCast, hroom, Result.andThen, h2]
      by_cases h0 : k * T.cells = 0
      · simp only [h0, if_true, Sem.run_bind, Sem.run_pure, Result.andThen, run_newRow', List.length_replicate]
      · simp only [h0, if_false, Sem.run_bind, h3, Sem.run_pure, Result.andThen, wrapV_cells zeroV_leaf, run_newRow', List.length_replicate]
    by_cases hnest : (E.nest && T.isSl) = true
    · rw [hnest, cond_true] at hkk
      simp only [Bool.and_eq_true] at hnest
      refine ⟨_, _, hkk, ?_⟩
      rw [hrun]
      simp only [Int.toNat_natCast, List.length_replicate]
      have hc1 := Ty.isSl_cells hnest.2
      have hcells : ((Array.range (k * T.cells)).map ((if k * T.cells = 0 then #[] else (zeroV T).toArray)[· % (if k * T.cells = 0 then #[] else (zeroV T).toArray).size]!)) = (List.replicate k (Value.slice none 0 0)).toArray := by
        cases T <;> simp [Ty.isSl] at hnest
        rename_i U
        apply Array.ext
        · simp [Ty.cells]
        · intro i h1 h2
          simp only [List.size_toArray, List.length_replicate] at h2
          have : ¬ k * (Ty.slice U).cells = 0 := by simp only [Ty.cells]; omega
          simp only [Array.getElem_map, Array.getElem_range, if_neg this, List.getElem_toArray, List.getElem_replicate]
          simp [zeroV, Nat.mod_one]
      rw [hcells]
      exact QR.arr hnest.2
    rw [show (E.nest && T.isSl) = false by simpa using hnest, cond_false] at hkk
    refine ⟨_, _, hkk, ?_⟩
    simp only [Int.toNat_natCast]
    rw [hrun]
    refine QR.row rfl (by simp) (by omega) (by simp) (fun n x hn => ?_)
    simp only [nth] at hn
    rw [List.getElem?_replicate] at hn
    split at hn
    · rename_i hlt
      simp only [Option.some.injEq] at hn
      subst hn
      refine ⟨zeroV T, dflt_sound T, fun j v hj => ?_⟩
      have hjl := (List.getElem?_eq_some_iff.1 hj).1
      rw [zeroV_len] at hjl
      have hb1 : n * T.cells + j < k * T.cells := by
        have : (n + 1) * T.cells ≤ k * T.cells := Nat.mul_le_mul_right _ hlt
        rw [Nat.succ_mul] at this; omega
      have hne : ¬ k * T.cells = 0 := by omega
      rw [if_neg hne]
      simp only [Array.getElem?_map, Array.getElem?_range, hb1, if_true, Option.map_some]
      have hm : (n * T.cells + j) % (zeroV T).toArray.size = j := by
        simp only [List.size_toArray, zeroV_len]
        rw [Nat.mul_comm, Nat.mul_add_mod, Nat.mod_eq_of_lt hjl]
      rw [hm]
      simp [hj]
    · cases hn
  · cases h

theorem boundK_some (hs : Slots w A S.ob μ S.slots a) {x : Option Operand} {d : Int} {K : Int → Option ρ} (h : evP.boundK S x d K = some r) :
    ∃ n, K n = some r ∧ ((x = none ∧ n = d) ∨ ∃ y k, x = some y ∧ a.eval y = .int k n) := by
  unfold evP.boundK at h
  split at h
  · exact ⟨d, h, .inl ⟨rfl, rfl⟩⟩
  · rename_i y
    have hv := hs.opd y
    split at h
    · rename_i k n hn
      rw [hn] at hv
      exact ⟨n, h, .inr ⟨y, k, rfl, hv.int⟩⟩
    · cases h
theorem run_sliceBounds {isSl : Bool} {len cap : Nat} {lo hi : Option Operand} {l h : Int} (hl : (lo = none ∧ l = 0) ∨ ∃ y k, lo = some y ∧ a.eval y = .int k l) (hh : (hi = none ∧ h = (len : Int)) ∨ ∃ y k, hi = some y ∧ a.eval y = .int k h)
    (h0 : 0 ≤ l) (h1 : l ≤ h) (h2 : h ≤ (len : Int)) (hc : len ≤ cap) : (Instr.sliceBounds isSl len cap (lo.map a.eval) (hi.map a.eval) none).run P w = .ok (l.toNat, h.toNat, cap) w := by
  have hb : ∀ (y : Nat) (z : Value) (k : IntKind) (n : Int) (c : BoundsCode), z = .int k n → 0 ≤ n → n ≤ (y : Int) → (Instr.sliceBound z y c).run P w = .ok n.toNat w := fun y z k n c hz h3 h4 => by
    subst hz
    simp [Instr.sliceBound, asIntOf, h3, h4]
  have h3 : l ≤ ((h.toNat : Nat) : Int) := by omega
  have h4 : 0 ≤ h := by omega
  have h5 : h ≤ (cap : Int) := by omega
  rcases hl with ⟨rfl, rfl⟩ | ⟨y, k, rfl, hy⟩ <;> rcases hh with ⟨rfl, rfl⟩ | ⟨z, k2, rfl, hz⟩
  · simp [Instr.sliceBounds]
  · simp [Instr.sliceBounds, Sem.run_bind, hb _ _ _ _ _ hz h4 h5, Result.andThen]
  · simp [Instr.sliceBounds, Sem.run_bind, hb _ _ _ _ _ hy h0 h3, Result.andThen]
    have := hb len _ _ _ .sliceB hy h0 (by simpa using h3)
    simp [this]
  · simp only [Instr.sliceBounds, Option.map_some, Sem.run_bind, Sem.run_pure, Result.andThen, hb _ _ _ _ _ hz h4 h5]
    simp [hb _ _ _ _ _ hy h0 h3]
theorem drop_nth {T : Ty} {xs : List T.den} {l h i : Nat} {x : T.den} (hx : nth (α := T.den) ((xs.take h).drop l) i = some x) : nth (α := T.den) xs (l + i) = some x ∧ l + i < h := by
  simp only [nth, List.getElem?_drop, List.getElem?_take] at hx ⊢
  split at hx
  · exact ⟨hx, by assumption⟩
  · cases hx
theorem sub_run {t : TypeId} {x : Operand} {lo hi : Option Operand} (hop : o.op = .slice t x lo hi none) {e : TypeId} {U : Ty} (hte : P.underlying t = some (.slice e)) (heT : TyOK P e U) {xs : List U.den} (n : Int) (hr : RowAt w A U xs (a.eval x)) (hn : (xs.length : Int) = n)
    {l hh : Int} (hl : (lo = none ∧ l = 0) ∨ ∃ y k, lo = some y ∧ a.eval y = .int k l) (hhh : (hi = none ∧ hh = n) ∨ ∃ y k, hi = some y ∧ a.eval y = .int k hh) (h0 : 0 ≤ l) (h1 : l ≤ hh) (h2 : hh ≤ n) {pv : PV} (hagg : pv.isAgg = false) (hk : K pv none = some r)
    (hcr : ∀ v, SubW (a.eval x) v l hh U.cells → CR w A S.ob μ pv [v]) : Right P w A μ S a o al K r := by
  obtain ⟨i, hi', hsz, _⟩ := heT.info
  have h5 := run_sizeOf' (w := w) (n := U.cells) ⟨i, hi', hsz⟩
  subst hn
  have hcap : ∀ a' c, a.eval x = .slice a' xs.length c → xs.length ≤ c → (execOp a.eval o).run P w = .ok (.value (.slice (if c = l.toNat then a' else a'.map (·.add (l.toNat * U.cells))) (hh.toNat - l.toNat) (c - l.toNat))) w := fun a' c ex hc => by
    simp only [execOp, hop]
    refine run_val ?_
    rw [ex]
    simp only [Instr.sliceAt, Sem.run_bind, run_underlying hte, Result.andThen, Option.map_none]
    simp only [Instr.slice, Sem.run_bind, run_underlying hte, Result.andThen, run_sliceBounds hl hhh h0 h1 h2 hc, h5, Sem.run_pure]
  rcases hr with ⟨hz, a', ex⟩ | ⟨b, off, c, cs, tt, ex, hheap, hlc, _, _, _⟩
  · have e1 : l = 0 := by omega
    have e2 : hh = 0 := by omega
    subst e1; subst e2
    have := hcap a' 0 (by rw [ex, hz]) (by omega)
    refine .plain (v := .slice a' 0 0) hk this (.of_one (hcr _ (.inl ⟨a', ex, rfl, rfl, rfl⟩)) rfl ?_)
    exact hagg
  · refine .plain (v := .slice (some ⟨b, if c = l.toNat then off else off + l.toNat * U.cells, none⟩) (hh.toNat - l.toNat) (c - l.toNat)) hk ?_ (.of_one (hcr _ (.inr ⟨b, off, _, c, _, ex, h0, h1, h2, rfl, by split <;> omega, fun hne => if_neg hne⟩)) rfl hagg)
    rw [hcap _ c ex hlc]
    congr 3
    split
    · rfl
    · simp [Addr.add_lit]
theorem slice_sound (hE : EnvTy P E) (hs : Slots w A S.ob μ S.slots a) (ho : Objs w A S.ob μ) {t : TypeId} {x : Operand} {lo hi mx : Option Operand} (hop : o.op = .slice t x lo hi mx) (h : evP E o S al K = some r) : Right P w A μ S a o al K r := by
  simp only [evP, hop] at h
  have hv := hs.opd x
  split at h
  · split at h
    · rename_i T xs hx
      rw [hx] at hv
      split at h
      · rename_i U hU
        obtain ⟨e, hte, heT, hpos⟩ := elem_some hE hU
        obtain ⟨l, h, hl⟩ := boundK_some hs h
        obtain ⟨hh, h, hhh⟩ := boundK_some hs h
        obtain ⟨hc, h⟩ := cond_some h
        simp only [Bool.and_eq_true, decide_eq_true_eq] at hc
        obtain ⟨hUT, h0, h1, h2⟩ := hc
        have hdr := hv.sl
        simp only [DR] at hdr
        obtain ⟨a', c, ex, hcap, hdr⟩ := hdr
        simp only [List.cons.injEq, and_true] at ex
        obtain ⟨i, hi', hsz, _⟩ := heT.info
        have h5 := run_sizeOf' (w := w) (n := U.cells) ⟨i, hi', hsz⟩
        refine .plain (v := .slice (if c = l.toNat then a' else a'.map (·.add (l.toNat * U.cells))) (hh.toNat - l.toNat) (c - l.toNat)) h ?_ (.mk_sl ?_)
        · simp only [execOp, hop]
          refine run_val ?_
          rw [ex]
          simp only [Instr.sliceAt, Sem.run_bind, run_underlying hte, Result.andThen, Option.map_none]
          simp only [Instr.slice, Sem.run_bind, run_underlying hte, Result.andThen, run_sliceBounds hl hhh h0 h1 h2 hcap.1, h5, Sem.run_pure]
        · simp only [DR]
          have hlen : List.length (List.drop l.toNat (List.take hh.toNat xs)) = hh.toNat - l.toNat := by
            rw [List.length_drop, List.length_take]; omega
          refine ⟨_, c - l.toNat, by rw [hlen], by rw [hlen]; omega, ?_⟩
          by_cases hz : hh.toNat - l.toNat = 0
          · exact .inl (List.length_eq_zero_iff.1 (hlen.trans hz))
          · rcases hdr with hdr | ⟨b, off, rfl, hn, hb, hdr⟩
            · rw [hdr] at h2; simp at h2; omega
            · refine .inr ⟨b, off + l.toNat * U.cells, ?_, hn, hb, fun i y hy => ?_⟩
              · rw [if_neg (by omega)]
                simp [Addr.add_lit]
              · obtain ⟨hy', _⟩ := drop_nth hy
                obtain ⟨cx, h6, h7⟩ := hdr _ _ hy'
                refine ⟨cx, h6, fun j v hj => ?_⟩
                have := h7 j v hj
                subst hUT
                rw [Nat.add_mul] at this
                rwa [show off + l.toNat * U.cells + i * U.cells + j = off + (l.toNat * U.cells + i * U.cells) + j from by omega]
      · cases h
    · rename_i s hx
      rw [hx] at hv
      have ex := hv.str
      obtain ⟨l, h, hl⟩ := boundK_some hs h
      obtain ⟨hh, h, hhh⟩ := boundK_some hs h
      obtain ⟨hc, h⟩ := cond_some h
      simp only [Bool.and_eq_true, decide_eq_true_eq] at hc
      obtain ⟨hst, h0, h1, h2⟩ := hc
      have hu := isStr_some hE hst
      refine .plain h ?_ (.mk_str _ (by have := hv.str_size; rw [ByteArray.size_extract]; omega))
      simp only [execOp, hop]
      refine run_val ?_
      rw [ex]
      simp only [Instr.sliceAt, Sem.run_bind, run_underlying hu, Result.andThen, Option.map_none]
      simp only [Instr.slice, Sem.run_bind, run_underlying hu, Result.andThen, Option.isSome_none, Bool.false_eq_true, if_false, run_sliceBounds hl hhh h0 h1 h2 (Nat.le_refl _), Sem.run_pure]
    · rename_i hx
      rw [hx] at hv
      split at h
      · rename_i U hU
        obtain ⟨e, hte, heT, hpos⟩ := elem_some hE hU
        obtain ⟨l, h, hl⟩ := boundK_some hs h
        obtain ⟨hh, h, hhh⟩ := boundK_some hs h
        obtain ⟨hc, hk⟩ := cond_some h
        simp only [Bool.and_eq_true, decide_eq_true_eq] at hc
        obtain ⟨rfl, rfl⟩ := hc
        have hn := hv.nil
        obtain ⟨i, hi', hsz, _⟩ := heT.info
        have h5 := run_sizeOf' (w := w) (n := U.cells) ⟨i, hi', hsz⟩
        refine .plain (v := .slice none 0 0) hk ?_ (.of_one (by simp only [CR]) rfl rfl)
        simp only [execOp, hop]
        refine run_val ?_
        rw [hn]
        simp only [Instr.sliceAt, Sem.run_bind, run_underlying hte, Result.andThen, Option.map_none]
        have hb := run_sliceBounds (P := P) (w := w) (a := a) (isSl := true) (len := 0) (cap := 0) hl (by simpa using hhh) (Int.le_refl 0) (Int.le_refl 0) (by simp) (Nat.le_refl 0)
        simp only [Int.toNat_zero] at hb
        simp only [Instr.slice, Sem.run_bind, run_underlying hte, Result.andThen, Option.isSome_none, Bool.false_eq_true, if_false, hb, h5, Sem.run_pure]
        simp
      · cases h
    · rename_i ob hx
      rw [hx] at hv
      split at h
      · rename_i T xs U hob hU
        obtain ⟨e, hte, heT, hpos⟩ := elem_some hE hU
        obtain ⟨l, h, hl⟩ := boundK_some hs h
        obtain ⟨hh, h, hhh⟩ := boundK_some hs h
        obtain ⟨hc, hk⟩ := cond_some h
        simp only [Bool.and_eq_true, decide_eq_true_eq] at hc
        obtain ⟨_, hUT, h0, h1, h2⟩ := hc
        subst hUT
        have hm := hv.row hob
        exact sub_run hop hte heT (xs.length) (((ho.each ob).rowAt hob).head hm) rfl hl (by simpa using hhh) h0 h1 (by simpa using h2) rfl hk (fun v hv => by
          simp only [CR, hob]
          exact ⟨v, rfl, by cases v <;> first | rfl | (rcases hv with ⟨_, _, e, _⟩ | ⟨_, _, _, _, _, _, _, _, _, e, _⟩ <;> cases e), hv.head ((ho.each ob).rowAt hob) (OR.nil0 (ho.each ob) hob) hm⟩)
      · cases h
    · rename_i ob l0 h0' hx
      rw [hx] at hv
      split at h
      · rename_i T xs U hob hU
        obtain ⟨e, hte, heT, hpos⟩ := elem_some hE hU
        obtain ⟨l, h, hl⟩ := boundK_some hs h
        obtain ⟨hh, h, hhh⟩ := boundK_some hs h
        obtain ⟨hc, hk⟩ := cond_some h
        simp only [Bool.and_eq_true, decide_eq_true_eq] at hc
        obtain ⟨hUT, h0, h1, h2⟩ := hc
        subst hUT
        obtain ⟨hra, ⟨g0, g1, g2⟩, _, hlen⟩ := ((ho.each ob).rowAt hob).sub (hv.subv hob)
        have hsv := hv.subv hob
        have hor := (ho.each ob).rowAt hob
        refine sub_run hop hte heT (h0' - l0) hra (by rw [hlen]; omega) hl hhh h0 h1 h2 rfl hk (fun v hv2 => ?_)
        simp only [CR, hob]
        refine ⟨v, rfl, by cases v <;> first | rfl | (rcases hv2 with ⟨_, _, e, _⟩ | ⟨_, _, _, _, _, _, _, _, _, e, _⟩ <;> cases e), ?_⟩
        rcases hsv with ⟨e1, ⟨a2, e2⟩, rfl, rfl⟩ | ⟨b, off, n0, c, o2, hm, k0, k1, k2, ev, k3, k4⟩
        · rw [e2] at hv2
          rcases hv2 with ⟨_, e, rfl, rfl, rfl⟩ | ⟨_, _, n2, c2, _, e, _, _, _, rfl, _⟩
          · exact .inl ⟨e1, ⟨_, rfl⟩, rfl, rfl⟩
          · simp only [Value.slice.injEq] at e
            obtain ⟨_, rfl, rfl⟩ := e
            have e4 : l = 0 := by omega
            have e5 : hh = 0 := by omega
            subst e4; subst e5
            exact .inl ⟨e1, ⟨_, rfl⟩, rfl, rfl⟩
        · rw [ev] at hv2
          have hlc : n0 ≤ c := by
            rcases hor with ⟨_, _, e⟩ | ⟨_, _, _, _, _, e, _, hlc, _⟩
            · rw [hm] at e; simp only [Value.slice.injEq] at e; omega
            · rw [hm] at e; simp only [Value.slice.injEq] at e; omega
          rcases hv2 with ⟨a3, e, rfl, rfl, rfl⟩ | ⟨b2, off2, n2, c2, o3, e, _, _, _, ev2, k5, k6⟩
          · simp only [Value.slice.injEq] at e
            obtain ⟨rfl, e3, e4⟩ := e
            refine .inr ⟨b, off, n0, c, o2, hm, by omega, by omega, by omega, ?_, by simpa using k3, fun hne => by simpa using k4 (by simpa using hne)⟩
            congr 1 <;> omega
          · simp only [Value.slice.injEq, Option.some.injEq, Addr.mk.injEq] at e
            obtain ⟨⟨rfl, e3, _⟩, e4, rfl⟩ := e
            refine .inr ⟨b, off, n0, c, o3, hm, by omega, by omega, by omega, ?_, ?_, fun hne => ?_⟩
            · rw [ev2]; congr 1 <;> omega
            · rw [show (l0 + l).toNat = l0.toNat + l.toNat from by omega, Nat.add_mul]; omega
            · have h1 := k4 (by omega)
              have h2 := k6 (by omega)
              rw [show (l0 + l).toNat = l0.toNat + l.toNat from by omega, Nat.add_mul]; omega
      · cases h
    · cases h
  · cases h

/-! ### Built-in functions -/
theorem run_builtin {c : Call} {b : Builtin} (hop : o.op = .call c) (hc : c.callee = .builtin b) :
    ∃ cs, (execOp a.eval o).run P w = (builtin b c.argTypes o.type cs (c.args.map a.eval)).run P w := by
  simp only [execOp, hop, resolve, hc, invoke, Sem.run_bind, Sem.run_pure, Result.andThen]
  exact ⟨_, rfl⟩
theorem lenOf_sound (hE : EnvTy P E) (ho : Objs w A S.ob μ) {t : Option Nat} {x : PV} {K : PV → Option ρ} (h : lenOf E S t x K = some r) {z : Value} (hv : VR w A S.ob μ x z) (types : Array TypeId) (ht : types[0]? = t) (ty : TypeId) :
    ∃ n, K (.int .i64 n) = some r ∧ (Builtin.len_ types ty #[z]).run P w = .ok (.int .i64 n) w := by
  unfold lenOf at h
  split at h
  · cases h
  · rename_i t
    have hel : ∀ T, E.elem t = some T → ∀ a' n c, z = .slice a' n c → (Builtin.len_ types ty #[z]).run P w = .ok (.int .i64 (n : Int)) w := fun T hT a' n c hz => by
      obtain ⟨e, hte, _⟩ := elem_some hE hT
      subst hz
      simp [Builtin.len_, ht, Sem.run_bind, run_underlying hte, Result.andThen, goInt]
    split at h
    · rename_i s
      obtain ⟨hst, h⟩ := cond_some h
      have hu := isStr_some hE hst
      have e := hv.str
      subst e
      exact ⟨_, h, by simp [Builtin.len_, ht, Sem.run_bind, run_underlying hu, Result.andThen, goInt]⟩
    · rename_i T xs
      split at h
      · rename_i U hU
        have hd := hv.sl
        simp only [DR] at hd
        obtain ⟨a', c, e, _⟩ := hd
        simp only [List.cons.injEq, and_true] at e
        exact ⟨_, h, hel U hU _ _ _ e⟩
      · cases h
    · split at h
      · rename_i U hU
        exact ⟨_, h, hel U hU _ _ _ hv.nil⟩
      · cases h
    · rename_i ob
      split at h
      · rename_i U hU
        split at h
        · rename_i T xs hob
          have hm := hv.row hob
          have hor := ho.each ob
          simp only [OR, hob] at hor
          rcases ((ho.each ob).rowAt hob).head hm with ⟨h0, a', e⟩ | ⟨b, off, c, cs, tt, e, _⟩
          · refine ⟨_, h, ?_⟩
            have := hel U hU _ _ _ e
            simpa [h0] using this
          · exact ⟨_, h, hel U hU _ _ _ e⟩
        · rename_i s hob
          have hm := hv.rowB hob
          rcases hm ▸ ((ho.each ob).bytesAt hob) with ⟨h0, a', e⟩ | ⟨b, off, c, cs, tt, e, _⟩
          · refine ⟨_, h, ?_⟩
            have := hel U hU _ _ _ e
            have h0 : s.size = 0 := (bytesI_len s).symm.trans h0
            simpa [h0] using this
          · have h1 := hel U hU _ _ _ (e.trans (congrArg (fun n => Value.slice (some ⟨b, off, none⟩) n c) (bytesI_len s)))
            exact ⟨_, h, h1⟩
        · rename_i d0 v0 hob
          split at h
          · rename_i ds
            obtain ⟨b, _, ev, _⟩ := hv.arr hob
            exact ⟨_, h, hel U hU _ _ _ ev⟩
          · cases h
        · cases h
      · cases h
    · rename_i ob l hh
      split at h
      · rename_i U hU
        split at h
        · rename_i T xs hob
          refine ⟨_, h, ?_⟩
          rcases hv.subv hob with ⟨_, ⟨_, e⟩, rfl, rfl⟩ | ⟨b, off, n, c, _, _, k0, k1, k2, e, _⟩
          · exact hel U hU _ _ _ e
          · have := hel U hU _ _ _ e
            rwa [show ((hh.toNat - l.toNat : Nat) : Int) = hh - l from by omega] at this
        · cases h
      · cases h
    · rename_i ob
      split at h
      · rename_i T U hd
        have hdd := hE _ _ hd
        simp only [TDOK] at hdd
        obtain ⟨_, kt, et, hu, _⟩ := hdd
        split at h
        · rename_i T' U' c hob
          have hm := hv.mp hob
          have hor := ho.each ob
          simp only [OR, hob] at hor
          obtain ⟨b, mes, h1, h2, h3, _⟩ := hor
          refine ⟨_, h, ?_⟩
          rw [← hm, h1]
          simp [Builtin.len_, ht, Sem.run_bind, run_underlying hu, Result.andThen, goInt, MapKept.run_getObj_map h2, Ents.len h3]
        · cases h
      · cases h
    · cases h
theorem foldMM_sound {op : BinOp} {f : Value → Value → Sem Value} (hf : ∀ k x y, f (.int k x) (.int k y) = pure (.int k (if (match op with | .lss => decide (y < x) | _ => decide (y > x)) then y else x))) {K : PV → Option ρ} {ob : Nat → OB} :
    ∀ (l : List PV) (x : PV) (zs : List Value) (z : Value), foldMM op x l K = some r → VR w A ob μ x z → TRs w A ob μ l zs → ∃ pv v, K pv = some r ∧ (zs.foldlM f z).run P w = .ok v w ∧ VR w A ob μ pv v
  | [], x, zs, z, h, hx, hl => by
    simp only [TRs] at hl
    subst hl
    exact ⟨x, z, by simpa only [foldMM] using h, by simp, hx⟩
  | y :: l, x, zs, z, h, hx, hl => by
    unfold foldMM at h
    split at h
    · rename_i heq; cases heq
    · rename_i k a' k' b' l' heq
      simp only [List.cons.injEq] at heq
      obtain ⟨rfl, rfl⟩ := heq
      split at h
      · rename_i hk; subst hk
        simp only [TRs] at hl
        obtain ⟨u, zs', rfl, hu, hl⟩ := hl
        have hu' : VR w A ob μ (.int k b') u := hu
        have e1 := hx.int
        have e2 := hu'.int
        subst e1 e2
        obtain ⟨pv, v, h1, h2, h3⟩ := foldMM_sound hf l _ zs' _ h (.mk_int k _) hl
        refine ⟨pv, v, h1, ?_, h3⟩
        simp only [List.foldlM_cons, hf, Sem.run_bind, Sem.run_pure, Result.andThen]
        exact h2
      · cases h
    · cases h
theorem builtin_sound (hE : EnvTy P E) (hs : Slots w A S.ob μ S.slots a) (ho : Objs w A S.ob μ) {c : Call} (hop : o.op = .call c) (h : evP E o S al K = some r) : Right P w A μ S a o al K r := by
  simp only [evP, hop] at h
  split at h
  · rename_i hc
    split at h
    · rename_i x hx
      have hargs : c.args = #[x] := by simpa using congrArg List.toArray hx
      obtain ⟨n, h1, h2⟩ := lenOf_sound hE ho h (hs.opd x) c.argTypes rfl o.type
      refine .plain h1 ?_ (.mk_int _ _)
      obtain ⟨cs, hcs⟩ := run_builtin (P := P) (a := a) (w := w) hop hc
      rw [hcs]
      simp only [builtin]
      refine run_val ?_
      simpa [hargs] using h2
    · cases h
  · rename_i hc
    split at h
    · rename_i x t ts hx htys
      split at h
      · rename_i U hU
        obtain ⟨e, hte, _, _⟩ := elem_some hE hU
        obtain ⟨y, hy, hyx⟩ : ∃ y, c.args.toList = [y] ∧ opd S y = .nil := by
          cases hc2 : c.args.toList with
          | nil => rw [hc2] at hx; cases hx
          | cons y l =>
            rw [hc2] at hx
            simp only [List.map_cons, List.cons.injEq, List.map_eq_nil_iff] at hx
            exact ⟨y, by rw [hx.2], hx.1⟩
        have hargs : c.args = #[y] := by simpa using congrArg List.toArray hy
        have hT : c.argTypes[0]? = some t := by
          have : c.argTypes = (t :: ts).toArray := by simpa using congrArg List.toArray htys
          rw [this]; simp
        have hv := hs.opd y
        rw [hyx] at hv
        have hn := hv.nil
        refine .plain h ?_ (.mk_int _ _)
        obtain ⟨cs, hcs⟩ := run_builtin (P := P) (a := a) (w := w) hop hc
        rw [hcs]
        simp only [builtin]
        refine run_val ?_
        simp [hargs, hn, Builtin.cap_, hT, Sem.run_bind, run_underlying hte, Result.andThen, goInt]
      · cases h
    · cases h
  · rename_i hc
    split at h
    · rename_i x l hx
      have ht := hs.trs c.args.toList
      rw [hx] at ht
      simp only [TRs] at ht
      obtain ⟨z, zs, hz, h1, h2⟩ := ht
      have hz' : (c.args.map a.eval).toList = z :: zs := by simpa using hz
      obtain ⟨pv, v, h3, h4, h5⟩ := foldMM_sound (P := P) (f := Builtin.min2) (fun k x y => by simp [Builtin.min2]) l x zs z h h1 h2
      refine .plain h3 ?_ h5
      obtain ⟨cs, hcs⟩ := run_builtin (P := P) (a := a) (w := w) hop hc
      rw [hcs]
      simp only [builtin]
      refine run_val ?_
      simp only [Builtin.min_, hz']
      exact h4
    · cases h
  · rename_i hc
    split at h
    · rename_i x l hx
      have ht := hs.trs c.args.toList
      rw [hx] at ht
      simp only [TRs] at ht
      obtain ⟨z, zs, hz, h1, h2⟩ := ht
      have hz' : (c.args.map a.eval).toList = z :: zs := by simpa using hz
      obtain ⟨pv, v, h3, h4, h5⟩ := foldMM_sound (P := P) (f := Builtin.max2) (fun k x y => by simp [Builtin.max2]) l x zs z h h1 h2
      refine .plain h3 ?_ h5
      obtain ⟨cs, hcs⟩ := run_builtin (P := P) (a := a) (w := w) hop hc
      rw [hcs]
      simp only [builtin]
      refine run_val ?_
      simp only [Builtin.max_, hz']
      exact h4
    · cases h
  · cases h
/-- EVERY OPERATION THAT CHANGES NOTHING IS RIGHT. -/
theorem evP_sound (hE : EnvTy P E) (hs : Slots w A S.ob μ S.slots a) (ho : Objs w A S.ob μ) (hf : ∀ pv b, K pv (some b) = some r → Fresh S al) (h : evP E o S al K = some r) : Right P w A μ S a o al K r := by
  have h0 := h
  unfold evP at h
  split at h <;> rename_i hx
  all_goals first
    | (refine small_sound hE hs ho hf ?_ h0; rw [hx]; trivial)
    | exact build_sound hE hs hx h0
    | exact buildSlice_sound hE hs ho.old hx h0
    | exact makeSlice_sound hE hs hx h0
    | exact load_sound hE hs ho hx h0
    | exact fieldAddr_sound hE hs ho hx h0
    | exact indexAddr_sound hE hs ho hx h0
    | exact slice_sound hE hs ho hx h0
    | exact builtin_sound hE hs ho hx h0
    | exact lookup_sound hE hs ho hx h0
    | exact makeMap_sound hE hs hx h0
    | exact range_sound hE hs ho hf hx h0
    | exact entry_sound hE hs ho hx h0
    | exact nilCheck_sound hs ho hx h0
    | cases h
end
end Go.Vm

/- Vm, part 11: states and worlds; what is added. Own work. -/
set_option linter.unusedVariables false
set_option linter.unusedSimpArgs false
set_option linter.unusedSectionVars false
namespace Go.Vm
variable [MonotC]
open Go.RowKit

/-- What a function's call begins with: the world; the blocks that its data keep out of; those that it may change. -/
structure Cx where
  w0 : World
  A0 : Nat → Prop
  M0 : Nat → Prop
  old : ∀ b, A0 b → b < w0.heap.size
  sub : ∀ b, M0 b → A0 b
def av (c : Cx) (ob : Nat → OB) (μ : Nat → Value) (b : Nat) : Prop := c.A0 b ∨ own ob μ b
structure SR (c : Cx) (S : St) (μ : Nat → Value) (a : Act) (w : World) : Prop where
  defers : a.defers = []
  slots : Slots w (av c S.ob μ) S.ob μ S.slots a
  objs : Objs w (av c S.ob μ) S.ob μ
  keep : Keep c.M0 c.w0 w
  mine : ∀ b, own S.ob μ b → c.M0 b ∨ c.w0.heap.size ≤ b
/-- From S to S' only variables of ds were written, and of the first n objects only such as are told. -/
structure Ag (n : Nat) (ds : List Nat) (S : St) (μ : Nat → Value) (S' : St) (μ' : Nat → Value) : Prop where
  len : S'.slots.length = S.slots.length
  slot : ∀ t, t ∉ ds → S'.slots[t]? = S.slots[t]?
  olen : n ≤ S'.objs.length
  ob : ∀ i, i < n → S'.ob i = S.ob i ∨ i ∈ S'.touched
  touched : ∀ i, i ∈ S.touched → i ∈ S'.touched
  later : ∀ i, i < n → Later S.ob μ S'.ob μ' i
theorem Later.trans {ob ob' ob'' : Nat → OB} {μ μ' μ'' : Nat → Value} {o : Nat} (h : Later ob μ ob' μ' o) (k : Later ob' μ' ob'' μ'' o) : Later ob μ ob'' μ'' o := by
  unfold Later at *
  cases h2 : ob'' o with
  | dead => trivial
  | box d v =>
    simp only [h2] at k
    obtain ⟨⟨v', h1⟩, e⟩ := k
    simp only [h1] at h
    exact ⟨h.1, e.trans h.2⟩
  | row T xs =>
    simp only [h2] at k
    obtain ⟨⟨v', h1⟩, e⟩ := k
    simp only [h1] at h
    exact ⟨h.1, e.trans h.2⟩
  | bytes s =>
    simp only [h2] at k
    obtain ⟨⟨v', h1⟩, e⟩ := k
    simp only [h1] at h
    exact ⟨h.1, e.trans h.2⟩
  | map T U c =>
    simp only [h2] at k
    obtain ⟨⟨v', h1⟩, e⟩ := k
    simp only [h1] at h
    exact ⟨h.1, e.trans h.2⟩
  | iter m T U n l c =>
    simp only [h2] at k
    obtain ⟨⟨m', n', l', c', h1⟩, e⟩ := k
    simp only [h1] at h
    exact ⟨h.1, e.trans h.2⟩
/-- what lives now lived, as it is -/
theorem Later.alive {ob ob' : Nat → OB} {μ μ' : Nat → Value} {o : Nat} (h : Later ob μ ob' μ' o) (ha : (ob' o).alive = true) : (ob o).alive = true ∧ μ' o = μ o := by
  unfold Later at h
  cases h2 : ob' o with
  | dead => rw [h2] at ha; cases ha
  | box d v => simp only [h2] at h; obtain ⟨⟨v', h1⟩, e⟩ := h; exact ⟨by rw [h1]; rfl, e⟩
  | row d v => simp only [h2] at h; obtain ⟨⟨v', h1⟩, e⟩ := h; exact ⟨by rw [h1]; rfl, e⟩
  | bytes v => simp only [h2] at h; obtain ⟨⟨v', h1⟩, e⟩ := h; exact ⟨by rw [h1]; rfl, e⟩
  | map T U v => simp only [h2] at h; obtain ⟨⟨v', h1⟩, e⟩ := h; exact ⟨by rw [h1]; rfl, e⟩
  | iter m T U n l c => simp only [h2] at h; obtain ⟨⟨m', n', l', c', h1⟩, e⟩ := h; exact ⟨by rw [h1]; rfl, e⟩
theorem CurR.keep {w w' : World} {A A' M : Nat → Prop} (hk : Keep M w w') (hA : ∀ b, b < w.heap.size → A' b → A b) (hM : ∀ b, M b → A b) {K V : Ty} {seen : List Nat} {mes : Array MapEntry} {kv : K.den × V.den} (h : CurR w A K V seen mes kv) : CurR w' A' K V seen mes kv := by
  obtain ⟨s, e, h1, h2, h3, h4, h5, h6⟩ := h
  exact ⟨s, e, h1, h2, DR.keep hk hA hM _ _ _ h3, h4, DR.keep hk hA hM _ _ _ h5, h6⟩
theorem Ag.refl {n : Nat} {S : St} {μ : Nat → Value} (ds : List Nat) (h : n ≤ S.objs.length) : Ag n ds S μ S μ :=
  ⟨rfl, fun _ _ => rfl, h, fun _ _ => .inl rfl, fun _ h => h, fun i _ => Later.refl _ _ i⟩
theorem Ag.trans {n : Nat} {ds ds' ds'' : List Nat} {S S' S'' : St} {μ μ' μ'' : Nat → Value} (h : Ag n ds S μ S' μ') (k : Ag n ds' S' μ' S'' μ'') (h1 : ∀ t, t ∈ ds → t ∈ ds'') (h2 : ∀ t, t ∈ ds' → t ∈ ds'') : Ag n ds'' S μ S'' μ'' :=
  ⟨k.len.trans h.len, fun t ht => (k.slot t (fun hm => ht (h2 t hm))).trans (h.slot t (fun hm => ht (h1 t hm))), k.olen,
    fun i hi => by
      rcases k.ob i hi with e | e
      · rcases h.ob i hi with e' | e'
        · exact .inl (e.trans e')
        · exact .inr (k.touched i e')
      · exact .inr e,
    fun i hi => k.touched i (h.touched i hi), fun i hi => (h.later i hi).trans (k.later i hi)⟩
theorem Ag.mono {n : Nat} {ds ds' : List Nat} {S S' : St} {μ μ' : Nat → Value} (h : Ag n ds S μ S' μ') (h1 : ∀ t, t ∈ ds → t ∈ ds') : Ag n ds' S μ S' μ' :=
  ⟨h.len, fun t ht => h.slot t (fun hm => ht (h1 t hm)), h.olen, h.ob, h.touched, h.later⟩

/-! ### Objects in lists -/
theorem ob_new (S : St) (al : Nat) (b : OB) : (S.new al b).ob = upd S.ob al b := by
  funext o
  simp only [St.ob, St.new, upd, List.getD, List.getElem?_set]
  by_cases h : o = al
  · subst h
    simp [show o < S.objs.length + (o + 1 - S.objs.length) from by omega]
  · rw [if_neg (fun e => h e.symm), if_neg h]
    rw [List.getElem?_append]
    split
    · rfl
    · rename_i hge
      have : S.objs[o]? = none := by simp; omega
      rw [this, List.getElem?_replicate]
      split <;> rfl
theorem ob_setOb (S : St) (o : Nat) (b : OB) (h : (S.ob o).alive = true) : (S.setOb o b).ob = upd S.ob o b := by
  funext x
  simp only [St.ob, St.setOb, upd, List.getD, List.getElem?_set]
  by_cases e : x = o
  · subst e
    have hl : x < S.objs.length := by
      rcases Nat.lt_or_ge x S.objs.length with h1 | h1
      · exact h1
      · have : S.objs[x]? = none := by simp; omega
        simp [St.ob, List.getD, this, OB.alive] at h
    simp [hl]
  · rw [if_neg (fun h => e h.symm), if_neg e]
theorem put_slots (S : St) (d : Option Tmp) (v : PV) (t : Nat) (h : d ≠ some t) : (S.put d v).slots[t]? = S.slots[t]? := by
  cases d with
  | none => rfl
  | some d => simp only [St.put, List.getElem?_set]; rw [if_neg (fun e => h (by rw [e]))]
theorem put_ob (S : St) (d : Option Tmp) (v : PV) : (S.put d v).ob = S.ob := by cases d <;> rfl
theorem put_len (S : St) (d : Option Tmp) (v : PV) : (S.put d v).slots.length = S.slots.length := by cases d <;> simp [St.put]
theorem put_objs (S : St) (d : Option Tmp) (v : PV) : (S.put d v).objs = S.objs := by cases d <;> rfl
theorem put_touched (S : St) (d : Option Tmp) (v : PV) : (S.put d v).touched = S.touched := by cases d <;> rfl
/-- a variable is written -/
theorem Slots.put {w : World} {A : Nat → Prop} {ob : Nat → OB} {μ : Nat → Value} {l : List PV} {a : Act} (h : Slots w A ob μ l a) {S : St} (hS : S.slots = l) {d : Option Tmp} {v : PV} {x : Value} (hv : VR w A ob μ v x) : Slots w A ob μ (S.put d v).slots (a.put d x) := by
  subst hS
  cases d with
  | none => exact h
  | some t =>
    refine ⟨by simp [St.put, Act.put, h.size], fun i u hi => ?_⟩
    simp only [St.put, List.getElem?_set] at hi
    simp only [Act.put]
    by_cases e : t = i
    · subst e
      rw [if_pos rfl] at hi
      split at hi
      · rename_i hlt
        simp only [Option.some.injEq] at hi
        subst hi
        have : t < a.tmps.size := by rw [h.size]; exact hlt
        simpa [Array.getD, this] using hv
      · cases hi
    · rw [if_neg e] at hi
      have := h.each i u hi
      rwa [show (a.tmps.setIfInBounds t x).getD i Go.undef = a.tmps.getD i Go.undef from by rw [Array.getD_eq_getD_getElem?, Array.getD_eq_getD_getElem?, Array.getElem?_setIfInBounds_ne e]]
theorem put_defers (a : Act) (d : Option Tmp) (x : Value) : (a.put d x).defers = a.defers := by cases d <;> rfl
theorem Slots.later {w w' : World} {A A' M : Nat → Prop} {ob ob' : Nat → OB} {μ μ' : Nat → Value} {l : List PV} {a : Act} (h : Slots w A ob μ l a) (hk : Keep M w w') (hA : ∀ b, b < w.heap.size → A' b → A b) (hM : ∀ b, M b → A b) (hl : ∀ o ∈ PV.oidsL l, Later ob μ ob' μ' o) : Slots w' A' ob' μ' l a :=
  ⟨h.size, fun t v ht => VR.later hk hA hM (fun o ho => hl o (oidsL_mem (List.mem_of_getElem? ht) ho)) (h.each t v ht)⟩
/-- an object in a later world -/
theorem OR.later {w w' : World} {A A' M : Nat → Prop} {ob ob' : Nat → OB} {μ μ' : Nat → Value} {o : Nat} (h : OR w A ob μ o) (hk : Keep M w w') (hA : ∀ b, b < w.heap.size → A' b → A b) (hM : ∀ b, M b → A b)
    (he : ob' o = ob o ∨ ob' o = .dead) (hm : ob' o = ob o → μ' o = μ o) (hn : ∀ b, (ob o).alive = true → blkOf (μ o) = some b → ¬ M b ∧ b < w.heap.size) (hl : ∀ x ∈ (ob o).oids, Later ob μ ob' μ' x)
    (hi : ∀ m, m ∈ (ob o).oids → (ob' m).alive = true → (∃ K V n l c, ob o = .iter m K V n l c) → ∀ b, blkOf (μ m) = some b → ¬ M b := by intros; intro h; exact h.elim) : OR w' A' ob' μ' o := by
  rcases he with he | he
  · have hm' := hm he
    unfold OR at h ⊢
    rw [he, hm']
    cases hb : ob o with
    | dead => trivial
    | box d v =>
      simp only [hb] at h ⊢
      obtain ⟨b, cs, t, e, hh, hf, hc, hhd⟩ := h
      obtain ⟨h1, h2⟩ := hn b (by rw [hb]; rfl) (by rw [e]; rfl)
      exact ⟨b, cs, t, e, by rw [hk.block b h2 h1]; exact hh, hf, CR.later hk hA hM v (fun x hx => hl x (by rw [hb]; exact hx)) _ hc, hhd⟩
    | row T xs =>
      simp only [hb] at h ⊢
      rcases h with h | ⟨b, off, c, cs, t, e, hh, h3, h4, h5, h6⟩
      · exact .inl h
      · obtain ⟨h1, h2⟩ := hn b (by rw [hb]; rfl) (by rw [e]; rfl)
        refine .inr ⟨b, off, c, cs, t, e, by rw [hk.block b h2 h1]; exact hh, h3, h4, h5, fun i x hi => ?_⟩
        obtain ⟨cx, h7, h8⟩ := h6 i x hi
        exact ⟨cx, DR.keep hk hA hM T x cx h7, h8⟩
    | bytes s =>
      simp only [hb] at h ⊢
      rcases h with h | ⟨h0, b, c, cs, e, hh, h3⟩
      · exact .inl h
      · obtain ⟨h1, h2⟩ := hn b (by rw [hb]; rfl) (by rw [e]; rfl)
        exact .inr ⟨h0, b, c, cs, e, by rw [hk.block b h2 h1]; exact hh, h3⟩
    | map T U c =>
      simp only [hb] at h ⊢
      obtain ⟨b, mes, e, hh, h3, h4⟩ := h
      obtain ⟨h1, h2⟩ := hn b (by rw [hb]; rfl) (by rw [e]; rfl)
      exact ⟨b, mes, e, by rw [hk.block b h2 h1]; exact hh, h3.keep hk hA hM, h4⟩
    | iter m T U n l c =>
      simp only [hb] at h ⊢
      obtain ⟨b, e, hlt, h3⟩ := h
      obtain ⟨h1, h2⟩ := hn b (by rw [hb]; rfl) (by rw [e]; rfl)
      have hmem : m ∈ (ob o).oids := by rw [hb]; simp [OB.oids]
      refine ⟨b, e, Nat.lt_of_lt_of_le hlt hk.size, fun ha => ?_⟩
      obtain ⟨ha', hme⟩ := (hl m hmem).alive ha
      obtain ⟨bm, mes, g1, g2, g3, g4⟩ := h3 ha'
      refine ⟨bm, mes, hme.trans g1, by rw [hk.block b h2 h1]; exact g2, ?_, fun kv hkv => (g4 kv hkv).keep hk hA hM⟩
      rw [hk.block bm (by
        rcases Nat.lt_or_ge bm w.heap.size with g | g
        · exact g
        · rw [Array.getElem?_eq_none g] at g3; cases g3) (hi m hmem ha ⟨T, U, n, l, c, hb⟩ bm (by rw [g1]; rfl))]
      exact g3
  · unfold OR
    rw [he]
    trivial
/-! ### What an operation adds -/
section
variable {c : Cx} {S : St} {μ : Nat → Value} {a : Act} {w : World}
theorem own_lt (h : SR c S μ a w) {b : Nat} (hb : own S.ob μ b) : b < w.heap.size := h.objs.old b (.inr hb)
/-- nothing that was there changes, one value comes in -/
theorem SR.add' (h : SR c S μ a w) {al : Nat} {w' : World} {d : Option Tmp} {pv : PV} {v : Value} {nb : Option OB} (hk : Keep None w w')
    (hf : ∀ b, nb = some b → Fresh S al)
    (hv : match nb with
      | none => VR w' (av c S.ob μ) S.ob μ pv v
      | some b => ∃ mv, (∀ x, blkOf mv = some x → w.heap.size ≤ x ∧ x < w'.heap.size) ∧ OR w' (addA (av c S.ob μ) mv) (upd S.ob al b) (upd μ al mv) al ∧ VR w' (addA (av c S.ob μ) mv) (upd S.ob al b) (upd μ al mv) pv v) :
    ∃ μ', SR c (S.add al d pv nb) μ' (a.put d v) w' ∧ (∀ n ds, (∀ t, d = some t → t ∈ ds) → n ≤ al → n ≤ S.objs.length → Ag n ds S μ (S.add al d pv nb) μ') ∧
      VR w' (av c (S.add al d pv nb).ob μ') (S.add al d pv nb).ob μ' pv v ∧ (∀ o, (nb ≠ none → o ≠ al) → Later S.ob μ (S.add al d pv nb).ob μ' o) ∧ (∀ x, own (S.add al d pv nb).ob μ' x → own S.ob μ x ∨ (w.heap.size ≤ x ∧ nb ≠ none)) := by
  cases nb with
  | none =>
    refine ⟨μ, ⟨by rw [put_defers]; exact h.defers, ?_, ?_, ?_, ?_⟩, fun n ds hd hn ho => ?_, by simpa only [St.add, put_ob] using hv, fun o _ => by simp only [St.add, put_ob]; exact Later.refl _ _ o, fun x hx => by simp only [St.add, put_ob] at hx; exact .inl hx⟩
    · simp only [St.add, put_ob]
      exact Slots.put (h.slots.later hk (fun _ _ h => h) (fun _ h => h.elim) (fun o _ => Later.refl _ _ o)) rfl hv
    · simp only [St.add, put_ob]
      exact ⟨fun o => (h.objs.each o).later hk (fun _ _ h => h) (fun _ h => h.elim) (.inl rfl) (fun _ => rfl) (fun b ha hb => ⟨fun h => h.elim, own_lt h ⟨o, ha, hb⟩⟩) (fun x _ => Later.refl _ _ x), h.objs.apart, h.objs.mine, fun b hb => Nat.lt_of_lt_of_le (h.objs.old b hb) hk.size, lay_keep h.objs.lay hk (fun _ _ h => h) (fun _ h => h.elim)⟩
    · exact h.keep.trans hk (fun _ h => h) (fun _ _ h => h.elim)
    · simp only [St.add, put_ob]; exact h.mine
    · simp only [St.add]
      exact ⟨put_len _ _ _, fun t ht => put_slots _ _ _ _ (fun e => ht (hd t e)), by rw [put_objs]; exact ho, fun i _ => .inl (by rw [put_ob]), fun i hi => by rw [put_touched]; exact hi, fun i _ => by rw [put_ob]; exact Later.refl _ _ i⟩
  | some b =>
    obtain ⟨mv, hb1, hor, hvr⟩ := hv
    have hfr := hf b rfl
    have hob : ((S.new al b).put d pv).ob = upd S.ob al b := by rw [put_ob, ob_new]
    have howx : ∀ x, own (upd S.ob al b) (upd μ al mv) x → own S.ob μ x ∨ blkOf mv = some x := by
      rintro x ⟨o, ha, hx⟩
      by_cases e : o = al
      · subst e; rw [upd_same] at hx; exact .inr hx
      · rw [upd_other _ _ e] at ha hx; exact .inl ⟨o, ha, hx⟩
    have hav : ∀ x, av c (upd S.ob al b) (upd μ al mv) x → addA (av c S.ob μ) mv x := by
      rintro x (hx | hx)
      · exact .inl (.inl hx)
      · rcases howx x hx with hx | hx
        · exact .inl (.inr hx)
        · exact .inr hx
    have hav0 : ∀ x, x < w.heap.size → av c (upd S.ob al b) (upd μ al mv) x → av c S.ob μ x := fun x hlt hx => by
      rcases hav x hx with hx | hx
      · exact hx
      · have := (hb1 x hx).1; omega
    have hlt : ∀ o, o ≠ al → Later S.ob μ (upd S.ob al b) (upd μ al mv) o := fun o ho => later_upd b mv ho
    refine ⟨upd μ al mv, ⟨by rw [put_defers]; exact h.defers, ?_, ?_, ?_, ?_⟩, fun n ds hd hn ho => ?_,
      by simp only [St.add, hob]; exact VR.later (Keep.refl None w') (fun x _ hx => hav x hx) (fun _ h => h.elim) (fun o _ => Later.refl _ _ o) hvr,
      fun o ho => by simp only [St.add, hob]; exact hlt o (ho (by simp)),
      fun x hx => by simp only [St.add, hob] at hx; exact (howx x hx).imp id fun h => ⟨(hb1 x h).1, by simp⟩⟩
    · simp only [St.add, hob]
      refine Slots.put (S := S.new al b) (h.slots.later hk hav0 (fun _ h => h.elim) (fun o ho => hlt o (fun e => hfr.slots (e ▸ ho)))) rfl ?_
      exact VR.later (Keep.refl None w') (fun x _ hx => hav x hx) (fun _ h => h.elim) (fun o _ => Later.refl _ _ o) hvr
    · simp only [St.add, hob]
      refine ⟨fun o => ?_, fun o o' x h1 h2 h3 h4 => ?_, fun x hx => .inr hx, fun x hx => ?_, lay_keep h.objs.lay hk hav0 (fun _ h => h.elim)⟩
      · by_cases e : o = al
        · subst e
          exact hor.later (Keep.refl None w') (fun x _ hx => hav x hx) (fun _ h => h.elim) (.inl rfl) (fun _ => rfl) (fun x ha hx => ⟨fun h => h.elim, by rw [upd_same] at hx; exact (hb1 x hx).2⟩) (fun x _ => Later.refl _ _ x)
        · exact (h.objs.each o).later hk hav0 (fun _ h => h.elim) (.inl (upd_other _ _ e)) (fun _ => upd_other _ _ e) (fun x ha hx => ⟨fun h => h.elim, own_lt h ⟨o, ha, hx⟩⟩) (fun x hx => hlt x (fun e' => hfr.objs o (e' ▸ hx)))
      · by_cases e : o = al <;> by_cases e' : o' = al
        · rw [e, e']
        · subst e
          rw [upd_same] at h3
          rw [upd_other _ _ e'] at h2 h4
          have := own_lt h ⟨o', h2, h4⟩
          have := (hb1 x h3).1
          omega
        · subst e'
          rw [upd_same] at h4
          rw [upd_other _ _ e] at h1 h3
          have := own_lt h ⟨o, h1, h3⟩
          have := (hb1 x h4).1
          omega
        · rw [upd_other _ _ e] at h1 h3
          rw [upd_other _ _ e'] at h2 h4
          exact h.objs.apart o o' x h1 h2 h3 h4
      · rcases hav x hx with hx | hx
        · exact Nat.lt_of_lt_of_le (h.objs.old x hx) hk.size
        · exact (hb1 x hx).2
    · exact h.keep.trans hk (fun _ h => h) (fun _ _ h => h.elim)
    · simp only [St.add, hob]
      intro x hx
      rcases howx x hx with hx | hx
      · exact h.mine x hx
      · exact .inr (Nat.le_trans h.keep.size (hb1 x hx).1)
    · simp only [St.add]
      refine ⟨by rw [put_len]; rfl, fun t ht => put_slots _ _ _ _ (fun e => ht (hd t e)), ?_, fun i hi => ?_, fun i hi => by rw [put_touched]; exact hi, fun i hi => ?_⟩
      · rw [put_objs]; simp [St.new]; omega
      · rw [hob]; exact .inl (upd_other _ _ (by omega))
      · rw [hob]; exact hlt i (by omega)
theorem SR.add (h : SR c S μ a w) {al : Nat} {w' : World} {d : Option Tmp} {pv : PV} {v : Value} {nb : Option OB} (hk : Keep None w w')
    (hf : ∀ b, nb = some b → Fresh S al)
    (hv : match nb with
      | none => VR w' (av c S.ob μ) S.ob μ pv v
      | some b => ∃ mv, (∀ x, blkOf mv = some x → w.heap.size ≤ x ∧ x < w'.heap.size) ∧ OR w' (addA (av c S.ob μ) mv) (upd S.ob al b) (upd μ al mv) al ∧ VR w' (addA (av c S.ob μ) mv) (upd S.ob al b) (upd μ al mv) pv v) :
    ∃ μ', SR c (S.add al d pv nb) μ' (a.put d v) w' ∧ (∀ n ds, (∀ t, d = some t → t ∈ ds) → n ≤ al → n ≤ S.objs.length → Ag n ds S μ (S.add al d pv nb) μ') := by
  obtain ⟨μ', h1, h2, _⟩ := h.add' (d := d) (nb := nb) hk hf hv
  exact ⟨μ', h1, h2⟩
end
end Go.Vm

/- Vm, part 12: operations that change what is there. Own work. -/
set_option linter.unusedVariables false
set_option linter.unusedSimpArgs false
set_option linter.unusedSectionVars false
namespace Go.Vm
variable [MonotC]
open Go.RowKit

section
variable {w : World} {A : Nat → Prop} {ob : Nat → OB} {μ : Nat → Value}
mutual
theorem DR.plain : ∀ (T : Ty) (x : T.den) (cs : List Value), DR w A T x cs → ∀ v ∈ cs, v.oneCell' = true
  | .int _, _, _, h => by simp only [DR] at h; subst h; simp [Value.oneCell']
  | .bool, _, _, h => by simp only [DR] at h; subst h; simp [Value.oneCell']
  | .str, _, _, h => by simp only [DR] at h; rw [h.1]; simp [Value.oneCell']
  | .slice _, _, _, h => by simp only [DR] at h; obtain ⟨a, c, rfl, _⟩ := h; simp [Value.oneCell']
  | .struct fs, x, cs, h => by simp only [DR] at h; exact DRs.plain fs x cs h
theorem DRs.plain : ∀ (T : Tys) (x : T.den) (cs : List Value), DRs w A T x cs → ∀ v ∈ cs, v.oneCell' = true
  | .nil, _, _, h => by simp only [DRs] at h; subst h; simp
  | .cons t ts, x, cs, h => by
    simp only [DRs] at h
    obtain ⟨c1, c2, rfl, h1, h2⟩ := h
    intro v hv
    rcases List.mem_append.1 hv with hv | hv
    · exact DR.plain t x.1 c1 h1 v hv
    · exact DRs.plain ts x.2 c2 h2 v hv
end
mutual
theorem CR.plain : ∀ (v : PV) (cs : List Value), CR w A ob μ v cs → v.plain = true → ∀ x ∈ cs, x.oneCell' = true
  | .any, _, _, hp => by cases hp
  | .undef, _, _, hp => by cases hp
  | .int _ _, _, h, _ => by simp only [CR] at h; subst h; simp [Value.oneCell']
  | .bool _, _, h, _ => by simp only [CR] at h; subst h; simp [Value.oneCell']
  | .str _, _, h, _ => by simp only [CR] at h; rw [h.1]; simp [Value.oneCell']
  | .sl T xs, cs, h, _ => by simp only [CR] at h; exact DR.plain _ _ _ h
  | .nil, _, h, _ => by simp only [CR] at h; subst h; simp [Value.oneCell']
  | .nilc k, _, h, _ => by simp only [CR] at h; subst h; cases k <;> simp [Value.oneCell', nilV]
  | .row o, _, h, _ => by simp only [CR] at h; obtain ⟨v, rfl, h, _⟩ := h; simpa using h
  | .agg l, cs, h, hp => by simp only [CR] at h; simp only [PV.plain] at hp; exact CRs.plain l cs h hp
  | .tup _, _, _, hp => by cases hp
  | .ptr _ _, _, h, _ => by simp only [CR] at h; obtain ⟨v, rfl, h, _⟩ := h; simpa using h
  | .el _ _, _, h, _ => by simp only [CR] at h; obtain ⟨_, _, _, rfl, _⟩ := h; simp [Value.oneCell']
  | .elo _ _ _, _, h, _ => by simp only [CR] at h; obtain ⟨v, rfl, h, _⟩ := h; simpa using h
  | .func _ _, _, h, _ => by simp only [CR] at h; obtain ⟨_, rfl, _⟩ := h; simp [Value.oneCell']
  | .mp _, _, h, _ => by simp only [CR] at h; obtain ⟨v, rfl, h, _⟩ := h; simpa using h
  | .it _, _, h, _ => by simp only [CR] at h; obtain ⟨v, rfl, h, _⟩ := h; simpa using h
  | .sub _ _ _, _, h, _ => by simp only [CR] at h; obtain ⟨v, rfl, h, _⟩ := h; simpa using h
theorem CRs.plain : ∀ (l : List PV) (cs : List Value), CRs w A ob μ l cs → PV.plainL l = true → ∀ x ∈ cs, x.oneCell' = true
  | [], _, h, _ => by simp only [CRs] at h; subst h; simp
  | v :: l, cs, h, hp => by
    simp only [CRs] at h
    simp only [PV.plainL, Bool.and_eq_true] at hp
    obtain ⟨c1, c2, rfl, h1, h2⟩ := h
    intro x hx
    rcases List.mem_append.1 hx with hx | hx
    · exact CR.plain v c1 h1 hp.1 x hx
    · exact CRs.plain l c2 h2 hp.2 x hx
end
theorem plain_not_any {v : PV} (h : v.plain = true) : v.isAny = false := by cases v <;> first | rfl | cases h
theorem plain_isAny {v : PV} (h : v.plain = true) : v.isAny = false := plain_not_any h
end

/-! ### Writing -/
/-- the world with another row in a block -/
theorem Keep.setRow (w : World) (b : Nat) (cs : Array Value) : Keep (· = b) w (w.setRow b cs) := by
  refine ⟨rfl, rfl, rfl, by simp [World.setRow], fun _ => Nat.le_refl _, fun a _ _ => ?_, fun x hx hn => ?_, fun x cs t z hx => ?_⟩
  rotate_left 2
  · simp only [World.setRow, Array.getElem?_modify]
    by_cases e : b = x
    · rw [if_pos e, hx]; exact ⟨_, _, rfl⟩
    · rw [if_neg e]; exact ⟨cs, z, hx⟩
  · unfold World.frozen?
    simp only [World.setRow, Array.getElem?_modify]
    by_cases e : b = a.block
    · rw [if_pos e]
      cases w.heap[a.block]? with
      | none => rfl
      | some o => cases o <;> rfl
    · rw [if_neg e]
  · simp only [World.setRow, Array.getElem?_modify]
    rw [if_neg (fun e => hn e.symm)]
theorem setRow_at {w : World} {b : Nat} {cs cs' : Array Value} {t : TypeId} {fr : Nat × Nat} (h : w.heap[b]? = some (.cells cs t fr)) : (w.setRow b cs').heap[b]? = some (.cells cs' t fr) := by
  simp only [World.setRow, Array.getElem?_modify, if_true, h, Option.map_some]
/-- a strings.Builder's first cell stays -/
theorem head_splice {e d' : TD} {p : List Nat} {off b : Nat} {cs : Array Value} {l : List Value} {t : TypeId} (h : (!e.isB || decide (p = [1])) = true) (ho : e.off p = some (off, d')) (hh : HeadOK e b cs t) : HeadOK e b (splice cs.toList off l).toArray t := fun hb => by
  rw [hb] at h
  simp only [Bool.not_true, Bool.false_or, decide_eq_true_eq] at h
  subst h
  have h1 : off = 1 := by
    unfold TD.isB at hb
    split at hb
    · simp only [TD.off, TD.off.go, Option.map_some, Option.some.injEq, Prod.mk.injEq, TD.cells] at ho
      omega
    · cases hb
  obtain ⟨htt, h2⟩ := hh hb
  refine ⟨htt, ?_⟩
  have h3 : (splice cs.toList off l).toArray[0]? = cs[0]? := by
    subst h1
    have hlen : 0 < cs.size := by
      rcases h2 with h2 | h2 <;> exact (Array.getElem?_eq_some_iff.1 h2).1
    rw [List.getElem?_toArray]
    unfold splice
    rw [List.getElem?_append_left (by rw [List.length_take, Array.length_toList]; omega), List.getElem?_take_of_lt (by omega), Array.getElem?_toList]
  rw [h3]
  exact h2
section
variable {c : Cx} {S : St} {μ : Nat → Value} {a : Act} {w : World}
/-- an object is written: its block alone changes -/
theorem SR.write (h : SR c S μ a w) {o b : Nat} {nb : OB} {w' : World} (ha : (S.ob o).alive = true) (hb : blkOf (μ o) = some b) (hk : Keep (· = b) w w')
    (hl : Later S.ob μ (upd S.ob o nb) μ o) (hn : nb.alive = true) (hor : OR w' (av c S.ob μ) (upd S.ob o nb) μ o) (hni : ∀ x m K V n l c, S.ob x = .iter m K V n l c → m ≠ o) :
    SR c (S.setOb o nb) μ a w' ∧ (∀ n ds, n ≤ S.objs.length → Ag n ds S μ (S.setOb o nb) μ) := by
  have hob := ob_setOb S o nb ha
  have hown : ∀ x, own (upd S.ob o nb) μ x → own S.ob μ x := by
    rintro x ⟨o', h1, h2⟩
    by_cases e : o' = o
    · subst e; exact ⟨o', ha, h2⟩
    · rw [upd_other _ _ e] at h1; exact ⟨o', h1, h2⟩
  have hav : ∀ x, av c (upd S.ob o nb) μ x → av c S.ob μ x := fun x hx => hx.imp id (hown x)
  have hlat : ∀ x, Later S.ob μ (upd S.ob o nb) μ x := fun x => by
    by_cases e : x = o
    · subst e; exact hl
    · unfold Later
      rw [upd_other _ _ e]
      cases hx : S.ob x <;> simp
  have hM : ∀ x, x = b → av c S.ob μ x := fun x e => by subst e; exact .inr ⟨o, ha, hb⟩
  refine ⟨⟨h.defers, ?_, ?_, ?_, ?_⟩, fun n ds hn' => ?_⟩
  · rw [hob]
    exact h.slots.later hk (fun x _ hx => hav x hx) hM (fun x _ => hlat x)
  · rw [hob]
    refine ⟨fun x => ?_, fun o1 o2 x h1 h2 h3 h4 => ?_, fun x hx => .inr hx, fun x hx => Nat.lt_of_lt_of_le (h.objs.old x (hav x hx)) hk.size, lay_keep h.objs.lay hk (fun x _ hx => hav x hx) hM⟩
    · by_cases e : x = o
      · subst e
        exact hor.later (Keep.refl None w') (fun y _ hy => hav y hy) (fun _ h => h.elim) (.inl rfl) (fun _ => rfl) (fun y h1 h2 => ⟨fun h => h.elim, Nat.lt_of_lt_of_le (own_lt h ⟨x, ha, h2⟩) hk.size⟩) (fun y _ => Later.refl _ _ y)
      · exact (h.objs.each x).later hk (fun y _ hy => hav y hy) hM (.inl (upd_other _ _ e)) (fun _ => rfl)
          (fun y h1 h2 => ⟨fun e' => e (h.objs.apart x o b h1 ha (e' ▸ h2) hb), own_lt h ⟨x, h1, h2⟩⟩) (fun y _ => hlat y)
          (fun m hm h1 ⟨K, V, n, l, cu, h2⟩ b' h3 e' => by
            have hne := hni x m K V n l cu h2
            rw [upd_other _ _ hne] at h1
            exact hne (h.objs.apart m o b h1 ha (e' ▸ h3) hb))
    · have k1 : (S.ob o1).alive = true := by
        by_cases e : o1 = o
        · subst e; exact ha
        · rwa [upd_other _ _ e] at h1
      have k2 : (S.ob o2).alive = true := by
        by_cases e : o2 = o
        · subst e; exact ha
        · rwa [upd_other _ _ e] at h2
      exact h.objs.apart o1 o2 x k1 k2 h3 h4
  · refine h.keep.trans hk (fun _ h => h) (fun x hx e => ?_)
    subst e
    rcases h.mine x ⟨o, ha, hb⟩ with h1 | h1
    · exact h1
    · omega
  · rw [hob]; exact fun x hx => h.mine x (hown x hx)
  · refine ⟨rfl, fun _ _ => rfl, by simpa [St.setOb] using hn', fun i hi => ?_, fun i hi => by simp [St.setOb, hi], fun i hi => by rw [hob]; exact hlat i⟩
    rw [hob]
    by_cases e : i = o
    · subst e; exact .inr (by simp [St.setOb])
    · exact .inl (upd_other _ _ e)
/-- no range is under way over what is no map -/
theorem no_iter (h : SR c S μ a w) {o : Nat} (ha : (S.ob o).alive = true) (hm : ∀ b, μ o ≠ .map (some b)) : ∀ x m K V n l c, S.ob x = .iter m K V n l c → m ≠ o := by
  intro x m K V n l cu hx e
  subst e
  have := h.objs.each x
  simp only [OR, hx] at this
  obtain ⟨b, _, _, h3⟩ := this
  obtain ⟨bm, _, h4, _⟩ := h3 ha
  exact hm bm h4
/-- an object is used up, another one takes its place (in its block, or in a new one) -/
theorem SR.consume (h : SR c S μ a w) {o al : Nat} {nb : OB} {mv : Value} {w' : World} {d : Option Tmp} {pv : PV} {v : Value} (ha : (S.ob o).alive = true) (hf : Fresh S al) (hn : nb.alive = true)
    (hk : Keep (fun x => blkOf (μ o) = some x) w w') (hb1 : ∀ x, blkOf mv = some x → x < w'.heap.size ∧ (blkOf (μ o) = some x ∨ w.heap.size ≤ x))
    (hor : OR w' (addA (av c S.ob μ) mv) (upd (upd S.ob o .dead) al nb) (upd μ al mv) al) (hv : VR w' (addA (av c S.ob μ) mv) (upd (upd S.ob o .dead) al nb) (upd μ al mv) pv v) :
    ∃ μ', SR c (((S.setOb o .dead).new al nb).put d pv) μ' (a.put d v) w' ∧ (∀ n ds, (∀ t, d = some t → t ∈ ds) → n ≤ al → n ≤ S.objs.length → Ag n ds S μ (((S.setOb o .dead).new al nb).put d pv) μ') := by
  have hob : (((S.setOb o .dead).new al nb).put d pv).ob = upd (upd S.ob o .dead) al nb := by rw [put_ob, ob_new, ob_setOb S o .dead ha]
  have hne : o ≠ al := fun e => by
    have := hf.dead
    rw [← e] at this
    rw [this] at ha
    cases ha
  have howx : ∀ x, own (upd (upd S.ob o .dead) al nb) (upd μ al mv) x → (∃ o', o' ≠ o ∧ (S.ob o').alive = true ∧ blkOf (μ o') = some x) ∨ blkOf mv = some x := by
    rintro x ⟨o', h1, h2⟩
    by_cases e : o' = al
    · subst e; rw [upd_same] at h2; exact .inr h2
    · rw [upd_other _ _ e] at h1 h2
      by_cases e' : o' = o
      · subst e'; rw [upd_same] at h1; cases h1
      · rw [upd_other _ _ e'] at h1; exact .inl ⟨o', e', h1, h2⟩
  have hav : ∀ x, av c (upd (upd S.ob o .dead) al nb) (upd μ al mv) x → addA (av c S.ob μ) mv x := by
    rintro x (hx | hx)
    · exact .inl (.inl hx)
    · rcases howx x hx with ⟨o', _, h1, h2⟩ | hx
      · exact .inl (.inr ⟨o', h1, h2⟩)
      · exact .inr hx
  have hav0 : ∀ x, x < w.heap.size → av c (upd (upd S.ob o .dead) al nb) (upd μ al mv) x → av c S.ob μ x := fun x hlt hx => by
    rcases hav x hx with hx | hx
    · exact hx
    · rcases (hb1 x hx).2 with h1 | h1
      · exact .inr ⟨o, ha, h1⟩
      · omega
  have hM : ∀ x, blkOf (μ o) = some x → av c S.ob μ x := fun x hx => .inr ⟨o, ha, hx⟩
  have hlt : ∀ x, x ≠ al → Later S.ob μ (upd (upd S.ob o .dead) al nb) (upd μ al mv) x := fun x hx => by
    unfold Later
    rw [upd_other _ _ hx, upd_other _ _ hx]
    by_cases e : x = o
    · subst e; rw [upd_same]; trivial
    · rw [upd_other _ _ e]
      cases hb : S.ob x <;> simp
  refine ⟨upd μ al mv, ⟨by rw [put_defers]; exact h.defers, ?_, ?_, ?_, ?_⟩, fun n ds hd hn' ho => ?_⟩
  · rw [hob]
    refine Slots.put (S := (S.setOb o .dead).new al nb) (h.slots.later hk hav0 hM (fun x hx => hlt x (fun e => hf.slots (e ▸ hx)))) rfl ?_
    exact VR.later (Keep.refl None w') (fun x _ hx => hav x hx) (fun _ h => h.elim) (fun o _ => Later.refl _ _ o) hv
  · rw [hob]
    refine ⟨fun x => ?_, fun o1 o2 x h1 h2 h3 h4 => ?_, fun x hx => .inr hx, fun x hx => ?_, lay_keep h.objs.lay hk hav0 hM⟩
    · by_cases e : x = al
      · subst e
        exact hor.later (Keep.refl None w') (fun y _ hy => hav y hy) (fun _ h => h.elim) (.inl rfl) (fun _ => rfl) (fun y h1 h2 => ⟨fun h => h.elim, by rw [upd_same] at h2; exact (hb1 y h2).1⟩) (fun y _ => Later.refl _ _ y)
      · by_cases e' : x = o
        · subst e'
          unfold OR
          rw [upd_other _ _ e, upd_same]
          trivial
        · exact (h.objs.each x).later hk hav0 hM (.inl (by rw [upd_other _ _ e, upd_other _ _ e'])) (fun _ => upd_other _ _ e)
            (fun y h1 h2 => ⟨fun h3 => e' (h.objs.apart x o y h1 ha h2 h3), own_lt h ⟨x, h1, h2⟩⟩) (fun y hy => hlt y (fun e => hf.objs x (e ▸ hy)))
            (fun m hm h1 _ b' h3 h4 => by
              have hma : m ≠ al := fun e => hf.objs x (e ▸ hm)
              rw [upd_other _ _ hma] at h1
              by_cases hmo : m = o
              · rw [hmo, upd_same] at h1; cases h1
              · rw [upd_other _ _ hmo] at h1
                exact hmo (h.objs.apart m o b' h1 ha h3 h4))
    · have clash : ∀ o', o' ≠ al → ((upd (upd S.ob o .dead) al nb) o').alive = true → blkOf ((upd μ al mv) o') = some x → blkOf mv = some x → False := fun o' e k1 k2 k3 => by
        rw [upd_other _ _ e] at k1 k2
        by_cases e' : o' = o
        · subst e'; rw [upd_same] at k1; cases k1
        · rw [upd_other _ _ e'] at k1
          rcases (hb1 x k3).2 with h5 | h5
          · exact e' (h.objs.apart o' o x k1 ha k2 h5)
          · have := own_lt h ⟨o', k1, k2⟩; omega
      by_cases e1 : o1 = al <;> by_cases e2 : o2 = al
      · rw [e1, e2]
      · subst e1; rw [upd_same] at h3; exact (clash o2 e2 h2 h4 h3).elim
      · subst e2; rw [upd_same] at h4; exact (clash o1 e1 h1 h3 h4).elim
      · rw [upd_other _ _ e1] at h1 h3
        rw [upd_other _ _ e2] at h2 h4
        have k1 : o1 ≠ o := fun e => by subst e; rw [upd_same] at h1; cases h1
        have k2 : o2 ≠ o := fun e => by subst e; rw [upd_same] at h2; cases h2
        rw [upd_other _ _ k1] at h1
        rw [upd_other _ _ k2] at h2
        exact h.objs.apart o1 o2 x h1 h2 h3 h4
    · rcases hav x hx with hx | hx
      · exact Nat.lt_of_lt_of_le (h.objs.old x hx) hk.size
      · exact (hb1 x hx).1
  · refine h.keep.trans hk (fun _ h => h) (fun x hx e => ?_)
    rcases h.mine x ⟨o, ha, e⟩ with h1 | h1
    · exact h1
    · omega
  · rw [hob]
    intro x hx
    rcases howx x hx with ⟨o', _, h1, h2⟩ | hx
    · exact h.mine x ⟨o', h1, h2⟩
    · rcases (hb1 x hx).2 with h1 | h1
      · exact h.mine x ⟨o, ha, h1⟩
      · exact .inr (Nat.le_trans h.keep.size h1)
  · refine ⟨by rw [put_len]; rfl, fun t ht => put_slots _ _ _ _ (fun e => ht (hd t e)), ?_, fun i hi => ?_, fun i hi => by rw [put_touched]; simp [St.new, St.setOb, hi], fun i hi => ?_⟩
    · rw [put_objs]; simp [St.new, St.setOb]; omega
    · rw [hob, upd_other _ _ (by omega)]
      by_cases e : i = o
      · subst e; exact .inr (by rw [put_touched]; simp [St.new, St.setOb])
      · exact .inl (upd_other _ _ e)
    · rw [hob]; exact hlt i (by omega)

theorem mem_iff {n : Nat} : ∀ {l : List Nat}, mem n l = true ↔ n ∈ l
  | [] => by simp [mem]
  | m :: l => by simp [mem, mem_iff (l := l)]
theorem noOid_iff {n : Nat} : ∀ {l : List OB}, noOid n l = true ↔ ∀ b ∈ l, n ∉ b.oids
  | [] => by simp [noOid]
  | b :: l => by
    simp only [noOid, Bool.and_eq_true, noOid_iff (l := l), List.mem_cons, forall_eq_or_imp, Bool.not_eq_true', ← Bool.not_eq_true, mem_iff]
theorem fresh_iff {al : Nat} (h : S.fresh al = true) : Fresh S al := by
  simp only [St.fresh, Bool.and_eq_true, Bool.not_eq_true', ← Bool.not_eq_true, mem_iff, noOid_iff] at h
  obtain ⟨h1, h2, h3⟩ := h
  refine ⟨?_, h2, fun o ho => ?_⟩
  · cases hb : S.ob al <;> simp_all [OB.alive]
  · simp only [St.ob, List.getD] at ho
    cases hx : S.objs[o]? with
    | none => simp [hx, OB.oids] at ho
    | some b =>
      simp only [hx, Option.getD_some] at ho
      exact h3 b (List.mem_of_getElem? hx) ho
variable {P : Program} {E : Env} {o : Oper} {al n : Nat} {ds : List Nat} {ρ : Type} {r : ρ} {K : St → Option ρ} {next : Act → World → Prop} {Q : Exit → Act → World → Prop}
theorem wp_value {v : Value} {w' : World} (h : (execOp a.eval o).run P w = .ok (.value v) w') (hn : next (a.put o.dst v) w') : o.wp P a w next Q := by
  simp only [Oper.wp, h, Oper.upon_value]; exact hn
theorem wp_skip' {w' : World} (h : (execOp a.eval o).run P w = .ok .skip w') (hn : next (a.put o.dst Go.undef) w') : o.wp P a w next Q := by
  simp only [Oper.wp, h, Oper.upon_skip]; exact hn
/-- a quiet operation, in the state -/
theorem quiet_step (hE : EnvTy P E) (hsr : SR c S μ a w) (h : evP E o S al (fun v b => addK S al o.dst v b K) = some r) (hd : ∀ t, o.dst = some t → t ∈ ds) (hn : n ≤ al) (hn' : n ≤ S.objs.length)
    (hnext : ∀ S' μ' a' w', K S' = some r → SR c S' μ' a' w' → Ag n ds S μ S' μ' → next a' w') : o.wp P a w next Q := by
  have hfr : ∀ pv b, addK S al o.dst pv (some b) K = some r → Fresh S al := fun pv b h => fresh_iff (cond_some h).1
  obtain ⟨pv, nb, hk, v, w', hrun, hkeep, hv⟩ := evP_sound hE hsr.slots hsr.objs hfr h
  refine wp_value hrun ?_
  cases nb with
  | none =>
    obtain ⟨μ', h1, h2⟩ := hsr.add (d := o.dst) (al := al) (nb := none) hkeep (fun b hb => by cases hb) hv
    exact hnext _ μ' _ _ hk h1 (h2 n ds hd hn hn')
  | some b =>
    obtain ⟨μ', h1, h2⟩ := hsr.add (d := o.dst) (al := al) (nb := some b) hkeep (fun b' _ => hfr pv b hk) hv
    exact hnext _ μ' _ _ (cond_some hk).2 h1 (h2 n ds hd hn hn')
theorem splice_eq (cs : Array Value) (off : Nat) (cv : List Value) : (cs.toList.take off ++ cv ++ cs.toList.drop (off + cv.length)).toArray = (splice cs.toList off cv).toArray := by
  simp [splice]
theorem run_storeVar' {t : TypeId} {d : TD} (ht : TDOK P t d) {b off : Nat} {cs : Array Value} {tt : TypeId} {v : Value} (hh : w.heap[b]? = some (.cells cs tt (0, 0))) (hl : v.cells.size = d.cells) (hb : off + d.cells ≤ cs.size)
    (hp : ∀ x ∈ v.cells.toList, x.oneCell' = true) : (storeVar t ⟨b, off, none⟩ v).run P w = .ok () (w.setRow b (splice cs.toList off v.cells.toList).toArray) := by
  obtain ⟨i, hi, hs, _⟩ := ht.info
  have h2 := run_sizeOf' (w := w) (n := d.cells) ⟨i, hi, hs⟩
  unfold storeVar
  simp only [Sem.run_bind, h2, Result.andThen]
  rw [if_neg (by omega)]
  have := run_storeCells_at (P := P) b off tt v.cells.toList 0 cs w hh (by simp; omega) hp
  rw [this]
  simp only [Nat.add_zero, splice_eq]
theorem store_sound (hE : EnvTy P E) (hsr : SR c S μ a w) {t : TypeId} {x y : Operand} (hop : o.op = .store t x y) (h : evF E o S al K = some r) (hd : ∀ t, o.dst = some t → t ∈ ds) (hn' : n ≤ S.objs.length)
    (hnext : ∀ S' μ' a' w', K S' = some r → SR c S' μ' a' w' → Ag n ds S μ S' μ' → next a' w') : o.wp P a w next Q := by
  simp only [evF, hop] at h
  have hx := hsr.slots.opd x
  have hy := hsr.slots.opd y
  split at h
  · rename_i d hd0
    have hdd := hE _ _ hd0
    have hfin : ∀ (ob b off : Nat) (cs : Array Value) (tt : TypeId) (nb : OB), (S.ob ob).alive = true → blkOf (μ ob) = some b → a.eval x = .pointer (some ⟨b, off, none⟩) → w.heap[b]? = some (.cells cs tt (0, 0)) →
        (a.eval y).cells.size = d.cells → off + d.cells ≤ cs.size → (opd S y).plain = true → Later S.ob μ (upd S.ob ob nb) μ ob → nb.alive = true → (∀ b, μ ob ≠ .map (some b)) →
        OR (w.setRow b (splice cs.toList off (a.eval y).cells.toList).toArray) (av c S.ob μ) (upd S.ob ob nb) μ ob → K ((S.setOb ob nb).put o.dst .undef) = some r → o.wp P a w next Q := by
      intro ob b off cs tt nb ha hb he hh hl hbd hpl hla hna hnm hor hk
      have hpc : ∀ z ∈ (a.eval y).cells.toList, z.oneCell' = true := by
        rcases hy with hy | hy
        · rw [plain_isAny hpl] at hy; cases hy
        · exact CR.plain _ _ hy.1 hpl
      obtain ⟨h1, h2⟩ := hsr.write ha hb (Keep.setRow w b _) hla hna hor (no_iter hsr ha hnm)
      refine wp_skip' ?_ (hnext _ μ _ _ hk ⟨by rw [put_defers]; exact h1.defers, ?_, ?_, h1.keep, ?_⟩ ?_)
      · simp only [execOp, hop, he, Instr.storeAt, Instr.sureAddr, Sem.run_bind, Sem.run_pure, Result.andThen, run_storeVar' hdd hh hl hbd hpc]
      · rw [put_ob]; exact Slots.put h1.slots rfl .mk_undef
      · rw [put_ob]; exact h1.objs
      · rw [put_ob]; exact h1.mine
      · refine (h2 n [] hn').trans (ds' := ds) (ds'' := ds) ?_ (fun t ht => by cases ht) (fun _ h => h)
        exact ⟨put_len _ _ _, fun t ht => put_slots _ _ _ _ (fun e => ht (hd t e)), by rw [put_objs]; simpa [St.setOb] using hn', fun i _ => .inl (by rw [put_ob]), fun i hi => by rw [put_touched]; exact hi, fun i _ => by rw [put_ob]; exact Later.refl _ _ i⟩
    split at h
    · rename_i ob p hx0
      rw [hx0] at hx
      split at h
      · rename_i e v hob
        obtain ⟨hcnd, hk⟩ := cond_some h
        simp only [Bool.and_eq_true] at hcnd
        obtain ⟨⟨hisb, hoff⟩, hfit, hpl⟩ := hcnd
        obtain ⟨b, off, d', hm, hofs, ea⟩ := hx.ptr hob
        rw [hofs] at hoff
        simp only [decide_eq_true_eq] at hoff
        subst hoff
        have hor := hsr.objs.each ob
        simp only [OR, hob] at hor
        obtain ⟨b', cs, tt, hm', hheap, hfits, hcr, hhd⟩ := hor
        rw [hm] at hm'
        simp only [Value.pointer.injEq, Option.some.injEq, Addr.mk.injEq] at hm'
        obtain ⟨rfl, _, _⟩ := hm'
        obtain ⟨_, _, h3, h4⟩ := TD.path_sound _ _ _ _ _ _ hfits hcr hofs
        have hl := TD.fits_len _ _ _ hfits hcr
        have hyc : CR w (av c S.ob μ) S.ob μ (opd S y) (a.eval y).cells.toList := by
          rcases hy with hy | hy
          · rw [plain_isAny hpl] at hy; cases hy
          · exact hy.1
        have hly := TD.fits_len _ _ _ hfit hyc
        obtain ⟨h5, h6⟩ := h4 _ _ hfit hyc
        have hla : Later S.ob μ (upd S.ob ob (.box e (setPath v p (opd S y)))) μ ob := by
          unfold Later; rw [upd_same]; exact ⟨⟨v, hob⟩, rfl⟩
        refine hfin ob b off cs tt _ (by rw [hob]; rfl) (by rw [hm]; rfl) ea hheap (by simpa using hly) (by simp at hl; omega) hpl hla rfl (fun b e => by rw [hm] at e; cases e) ?_ hk
        unfold OR
        rw [upd_same]
        refine ⟨b, _, tt, hm, setRow_at hheap, h6, ?_, head_splice hisb hofs hhd⟩
        have hbk : av c S.ob μ b := .inr ⟨ob, by rw [hob]; rfl, by rw [hm]; rfl⟩
        refine CR.later (Keep.setRow w b _) (fun _ _ h => h) (fun x e => by subst e; exact hbk) _ (fun z hz => ?_) _ (by simpa using h5)
        by_cases ez : z = ob
        · subst ez; exact hla
        · unfold Later
          rw [upd_other _ _ ez]
          cases hb : S.ob z <;> simp
      · cases h
    · rename_i ob i p hx0
      rw [hx0] at hx
      split at h
      · rename_i T xs hob
        obtain ⟨hcnd, h⟩ := cond_some h
        simp only [Bool.and_eq_true] at hcnd
        obtain ⟨hoff, hin⟩ := hcnd
        obtain ⟨z, hz, h⟩ := optK_some h
        obtain ⟨hcnd, hk⟩ := cond_some h
        simp only [Bool.and_eq_true] at hcnd
        obtain ⟨hfit, hpl⟩ := hcnd
        obtain ⟨h0, h1⟩ := index_ok (a0 := ⟨0, 0, none⟩) hin
        obtain ⟨b, off, n0, c0, o2, T', hm, hofs, _, ea⟩ := hx.elo hob
        rw [hofs] at hoff
        simp only [decide_eq_true_eq] at hoff
        subst hoff
        have hor := hsr.objs.each ob
        simp only [OR, hob] at hor
        rcases hor with ⟨hl0, _⟩ | ⟨b', off', c', cs, tt, hm', hheap, hlc, hc63, hsz, hel⟩
        · omega
        rw [hm] at hm'
        simp only [Value.slice.injEq, Option.some.injEq, Addr.mk.injEq] at hm'
        obtain ⟨⟨rfl, rfl, _⟩, rfl, rfl⟩ := hm'
        have hlt : i.toNat < List.length xs := by omega
        have hg : nth (α := T.den) xs i.toNat = some (rd T.dflt xs i) := by
          simp [nth, rd, List.getD, List.getElem?_eq_getElem hlt]
        obtain ⟨cx, hdr, hcx⟩ := hel _ _ hg
        have hyc : CR w (av c S.ob μ) S.ob μ (opd S y) (a.eval y).cells.toList := by
          rcases hy with hy | hy
          · rw [plain_isAny hpl] at hy; cases hy
          · exact hy.1
        have hly := TD.fits_len _ _ _ hfit hyc
        obtain ⟨o3, T3, hoff', h3, h4, h5⟩ := setT_sound _ _ _ _ _ _ _ hz hdr hyc
        rw [hofs] at hoff'
        simp only [Option.some.injEq, Prod.mk.injEq] at hoff'
        obtain ⟨rfl, rfl⟩ := hoff'
        have hcl := DR.len _ _ _ hdr
        have hrow : off + i.toNat * T.cells + T.cells ≤ cs.size := by
          have : (i.toNat + 1) * T.cells ≤ c0 * T.cells := Nat.mul_le_mul_right _ (by omega)
          rw [Nat.succ_mul] at this
          omega
        have hla : Later S.ob μ (upd S.ob ob (.row T (xs.set i.toNat z))) μ ob := by
          unfold Later; rw [upd_same]; exact ⟨⟨xs, hob⟩, rfl⟩
        refine hfin ob b (off + i.toNat * T.cells + o2) cs tt _ (by rw [hob]; rfl) (by rw [hm]; rfl) ea hheap (by simpa using hly) (by simp only [TD.cells]; omega) hpl hla rfl (fun b e => by rw [hm] at e; cases e) ?_ hk
        unfold OR
        rw [upd_same]
        have hbk : av c S.ob μ b := .inr ⟨ob, by rw [hob]; rfl, by rw [hm]; rfl⟩
        have hkp : Keep (· = b) w (w.setRow b (splice cs.toList (off + i.toNat * T.cells + o2) (a.eval y).cells.toList).toArray) := Keep.setRow w b _
        have hspl : off + i.toNat * T.cells + o2 + (a.eval y).cells.toList.length ≤ cs.toList.length := by
          have e1 : cs.toList.length = cs.size := by simp
          omega
        refine .inr ⟨b, off, c0, _, tt, by rw [hm, List.length_set], setRow_at hheap, by rw [List.length_set]; exact hlc, hc63, by simp only [List.size_toArray, splice_len hspl, Array.length_toList]; exact hsz, fun k u hk' => ?_⟩
        simp only [nth, List.getElem?_set] at hk'
        by_cases ek : i.toNat = k
        · subst ek
          rw [if_pos rfl] at hk'
          split at hk'
          · simp only [Option.some.injEq] at hk'
            subst hk'
            refine ⟨_, DR.keep hkp (fun _ _ h => h) (fun x e => by subst e; exact hbk) T _ _ h5, fun j v hj => ?_⟩
            have hjl := (List.getElem?_eq_some_iff.1 hj).1
            rw [splice_len (by omega), hcl] at hjl
            rw [getElem?_splice (by omega)] at hj
            simp only [List.getElem?_toArray]
            rw [getElem?_splice hspl]
            by_cases hin2 : o2 ≤ j ∧ j < o2 + (a.eval y).cells.toList.length
            · rw [if_pos hin2] at hj
              rw [if_pos ⟨by omega, by omega⟩]
              rw [show off + i.toNat * T.cells + j - (off + i.toNat * T.cells + o2) = j - o2 from by omega]
              exact hj
            · rw [if_neg hin2] at hj
              rw [if_neg (by omega)]
              have := hcx j v hj
              simpa using this
          · rename_i hge
            exact absurd hlt hge
        · rw [if_neg ek] at hk'
          obtain ⟨cu, h6, h7⟩ := hel k u hk'
          refine ⟨cu, DR.keep hkp (fun _ _ h => h) (fun x e => by subst e; exact hbk) T _ _ h6, fun j v hj => ?_⟩
          have hjl := (List.getElem?_eq_some_iff.1 hj).1
          rw [DR.len _ _ _ h6] at hjl
          simp only [List.getElem?_toArray]
          rw [getElem?_splice hspl, if_neg ?_]
          · have := h7 j v hj
            simpa using this
          · rintro ⟨g1, g2⟩
            rcases Nat.lt_or_ge k i.toNat with hki | hki
            · have : (k + 1) * T.cells ≤ i.toNat * T.cells := Nat.mul_le_mul_right _ hki
              rw [Nat.succ_mul] at this
              omega
            · have : (i.toNat + 1) * T.cells ≤ k * T.cells := Nat.mul_le_mul_right _ (by omega)
              rw [Nat.succ_mul] at this
              omega
      · cases h
    · cases h
  · cases h
end
end Go.Vm

/- Vm, part 13c: rows with a block of their own. Own work. -/
set_option linter.unusedVariables false
set_option linter.unusedSimpArgs false
set_option linter.unusedSectionVars false
namespace Go.Vm
variable [MonotC]
open Go.RowKit
section
variable {w w' : World} {A A' : Nat → Prop}
/-- a row with a block of its own -/
def RealRow (w : World) (A : Nat → Prop) (T : Ty) (xs : List T.den) (b off c : Nat) : Prop :=
  ∃ cs t, w.heap[b]? = some (.cells cs t (0, 0)) ∧ List.length xs ≤ c ∧ c ≤ 9223372036854775807 ∧ off + c * T.cells ≤ cs.size ∧
    ∀ i x, nth (α := T.den) xs i = some x → ∃ cx, DR w A T x cx ∧ ∀ j v, cx[j]? = some v → cs[off + i * T.cells + j]? = some v
theorem RealRow.mono {T : Ty} {xs : List T.den} {b off c : Nat} (h : RealRow w A T xs b off c) (hA : ∀ b, A' b → A b) : RealRow w A' T xs b off c := by
  obtain ⟨cs, t, h1, h2, h3, h4, h5⟩ := h
  refine ⟨cs, t, h1, h2, h3, h4, fun i x hi => ?_⟩
  obtain ⟨cx, h6, h7⟩ := h5 i x hi
  exact ⟨cx, DR.keep (Keep.refl None w) (fun b _ hb => hA b hb) (fun _ h => h.elim) _ _ _ h6, h7⟩
theorem RealRow.or {ob : Nat → OB} {μ : Nat → Value} {o : Nat} {T : Ty} {xs : List T.den} {b off c : Nat} (h : RealRow w A T xs b off c) (ho : ob o = .row T xs) (hm : μ o = .slice (some ⟨b, off, none⟩) xs.length c) : OR w A ob μ o := by
  unfold OR
  rw [ho]
  obtain ⟨cs, t, h1, h2, h3, h4, h5⟩ := h
  exact .inr ⟨b, off, c, cs, t, hm, h1, h2, h3, h4, h5⟩
/-- a row, with or without room -/
theorem RowAt.cases {T : Ty} {xs : List T.den} {v : Value} (h : RowAt w A T xs v) : (xs = [] ∧ ∃ a, v = .slice a 0 0) ∨ ((¬ ∃ a, v = .slice a 0 0) ∧ ∃ b off c, v = .slice (some ⟨b, off, none⟩) xs.length c ∧ RealRow w A T xs b off c) := by
  by_cases hz : ∃ a, v = .slice a 0 0
  · rcases h with ⟨h0, h⟩ | ⟨b, off, c, cs, t, e, _⟩
    · exact .inl ⟨List.length_eq_zero_iff.1 h0, hz⟩
    · obtain ⟨a, e2⟩ := hz
      rw [e2] at e
      simp only [Value.slice.injEq] at e
      exact .inl ⟨List.length_eq_zero_iff.1 e.2.1.symm, a, e2⟩
  · rcases h with ⟨_, h⟩ | ⟨b, off, c, cs, t, e, h1⟩
    · exact absurd h hz
    · exact .inr ⟨hz, b, off, c, e, cs, t, h1⟩
/-- a row at a place of its own -/
theorem rowAt_own {T : Ty} {ys : List T.den} {v h : Value} (hr : RowAt w A T ys v) (hb : blkOf v = blkOf h ∨ ∃ a, v = .slice a 0 0) :
    ∃ hd, HeadR hd v ∧ v.oneCell' = true ∧ (ys = [] ∧ hd = .slice none 0 0 ∨ ∃ b off c, hd = .slice (some ⟨b, off, none⟩) ys.length c ∧ RealRow w A T ys b off c) ∧ ∀ b, blkOf hd = some b → blkOf h = some b := by
  rcases hr.cases with ⟨rfl, p, rfl⟩ | ⟨hz, b, off, c, rfl, hreal⟩
  · exact ⟨.slice none 0 0, .inr ⟨rfl, p, rfl⟩, rfl, .inl ⟨rfl, rfl⟩, fun b hb => by cases hb⟩
  · refine ⟨_, .inl rfl, rfl, .inr ⟨b, off, c, rfl, hreal⟩, fun b' hb' => ?_⟩
    rcases hb with hb | hb
    · rw [← hb]; exact hb'
    · exact absurd hb hz
end
end Go.Vm
