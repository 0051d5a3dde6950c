/- Vm, part 9: 'evP' is right: the other operations. Own work. -/
import Derived.Test.YtfiembgemhonlaaVmEvP
set_option linter.unusedVariables false
set_option linter.unusedSimpArgs false
namespace Go.Vm
open Go.RowKit

section
variable {P : Program} {E : Env} {w : World} {A : Nat → Prop} {μ : Nat → Value} {S : St} {a : Act} {o : Oper} {al : Nat} {ρ : Type} {r : ρ} {K : PV → Option OB → Option ρ}
theorem run_newRow' (t : TypeId) (cs : Array Value) : (newRow t cs).run P w = .ok ⟨w.heap.size, 0, none⟩ (w.alloc (.cells cs t (0, 0))) := by
  simp [newRow, newObj, Sem.run_bind, Result.andThen, Sem.run]
theorem wrapV_cells {agg : Bool} {cs : List Value} (h : agg = false → ∃ x, cs = [x] ∧ aggV x = false) : (wrapV agg cs).cells = cs.toArray := by
  cases agg
  · obtain ⟨x, rfl, hx⟩ := h rfl
    simp [wrapV, cells_one hx]
  · simp [wrapV, Value.cells]
theorem zeroV_leaf : ∀ {T : Ty}, T.isAgg = false → ∃ x, zeroV T = [x] ∧ aggV x = false
  | .int _, _ => ⟨_, rfl, rfl⟩ | .bool, _ => ⟨_, rfl, rfl⟩ | .str, _ => ⟨_, rfl, rfl⟩ | .slice _, _ => ⟨_, rfl, rfl⟩ | .struct _, h => by cases h
theorem TD.zeroV_leaf : ∀ {d : TD}, d.isAgg = false → ∃ x, d.zeroV = [x] ∧ aggV x = false
  | .data T, h => Vm.zeroV_leaf h | .cell k, _ => ⟨_, rfl, by cases k <;> rfl⟩ | .agg _, h => by cases h
theorem zeroOf_oids : ∀ (d : TD), d.zero.oids = [] := by
  intro d
  exact TD.rec (motive_1 := fun d => d.zero.oids = []) (motive_2 := fun l => PV.oidsL l.zero = [])
    (fun T => by
      simp only [TD.zero]
      exact Ty.rec (motive_1 := fun T => (zeroOf T).oids = []) (motive_2 := fun l => PV.oidsL (zerosOf l) = [])
        (fun _ => rfl) rfl rfl (fun _ _ => rfl) (fun fs h => by simpa only [zeroOf, PV.oids] using h) rfl
        (fun t ts h1 h2 => by simp only [zerosOf, PV.oidsL, h1, h2, List.append_nil]) T)
    (fun _ => rfl) (fun l h => by simpa only [TD.zero, PV.oids] using h) rfl
    (fun d l h1 h2 => by simp only [TDs.zero, PV.oidsL, h1, h2, List.append_nil]) d

theorem _root_.Go.Vm.TRs.get {ob : Nat → OB} : ∀ {l : List PV} {vs : Array Value} {i : Nat}, TRs w A ob μ l vs.toList → i < l.length → ∃ z, vs[i]? = some z ∧ VR w A ob μ (l.getD i .any) z := by
  have aux : ∀ (l : List PV) (vs : List Value) (i : Nat), TRs w A ob μ l vs → i < l.length → ∃ z, vs[i]? = some z ∧ VR w A ob μ (l.getD i .any) z := by
    intro l
    induction l with
    | nil => intro vs i h hi; simp at hi
    | cons v l ih =>
      intro vs i h hi
      simp only [TRs] at h
      obtain ⟨x, r, rfl, h1, h2⟩ := h
      cases i with
      | zero => exact ⟨x, rfl, h1⟩
      | succ n => exact ih r n h2 (by simpa using hi)
  intro l vs i h hi
  obtain ⟨z, hz, hv⟩ := aux l vs.toList i h hi
  exact ⟨z, by simpa using hz, hv⟩
theorem _root_.Go.Vm.Slots.trs (hs : Slots w A S.ob μ S.slots a) : ∀ (l : List Operand), TRs w A S.ob μ (l.map (opd S)) (l.map a.eval)
  | [] => by simp [TRs]
  | x :: l => by
    simp only [List.map_cons, TRs]
    exact ⟨_, _, rfl, hs.opd x, hs.trs l⟩
theorem isStr_some {t : Nat} (hE : EnvTy P E) (h : E.isStr t = true) : P.underlying t = some .string := by
  unfold Env.isStr at h
  split at h
  · rename_i hd
    have := hE _ _ hd
    simp only [TDOK, TyOK] at this
    exact this.2
  · cases h
theorem small_sound (hE : EnvTy P E) (hs : Slots w A S.ob μ S.slots a) (ho : Objs w A S.ob μ) (hf : ∀ pv b, K pv (some b) = some r → Fresh S al)
    (hop : match o.op with | .move _ | .assign _ | .pick _ _ _ | .binOp _ _ _ _ _ | .unOp _ _ _ | .convert _ _ _ | .alloc _ | .box _ _ | .extract _ _ | .makeFunc _ _ _ | .index _ _ _ => True | _ => False)
    (h : evP E o S al K = some r) : Right P w A μ S a o al K r := by
  unfold evP at h
  split at h <;> rename_i hx <;> simp only [hx] at hop
  · exact .plain h (by simp [execOp, hx]) (hs.opd _)
  · exact .plain h (by simp [execOp, hx]) (hs.opd _)
  · rename_i c x y
    have hc := hs.opd c
    split at h
    · rename_i v hv
      rw [hv] at hc
      have e := hc.bool
      cases v
      · exact .plain h (by simp [execOp, hx, e, asBool]) (hs.opd y)
      · exact .plain h (by simp [execOp, hx, e, asBool]) (hs.opd x)
    · cases h
  · rename_i op t x y yt
    obtain ⟨pv, z, hk, hrun, hv⟩ := bin_sound (P := P) h (hs.opd x) (hs.opd y) t x y (fun hb => by
      unfold Env.isBool at hb
      split at hb
      · rename_i hd
        have := hE _ _ hd
        simp only [TDOK, TyOK] at this
        exact this.2
      · cases hb) (fun hb => by
      unfold Env.isSl at hb
      split at hb
      · rename_i T hd
        obtain ⟨e, he, _⟩ := elem_some hE hd
        exact ⟨e, he⟩
      · cases hb)
    exact .plain hk (by simp only [execOp, hx]; exact run_val hrun) hv
  · rename_i t x
    have hv := hs.opd x
    split at h
    · rename_i b hb
      rw [hb] at hv
      have e := hv.bool
      exact .plain h (by simp [execOp, hx, e, Op.unary]) (.mk_bool _)
    · cases h
  · rename_i t x
    have hv := hs.opd x
    split at h
    · rename_i k n hb
      rw [hb] at hv
      have e := hv.int
      exact .plain h (by simp [execOp, hx, e, Op.unary, Op.intArith]) (.mk_int _ _)
    · cases h
  · rename_i s t x
    have hv := hs.opd x
    split at h
    · rename_i d hd
      obtain ⟨sd, hsd, _⟩ := (hE _ _ hd).agg
      split at h
      · rename_i k0 n k hb ht
        rw [hb] at hv
        have e := hv.int
        have := hE _ _ ht
        simp only [TDOK, TyOK] at this
        exact .plain h (by simp [execOp, hx, e, convert, run_underlying hsd, run_underlying this.2, Result.andThen, Conv.intToInt]) (.mk_int _ _)
      · cases h
    · cases h
  · rename_i t
    split at h
    · rename_i d hd
      have hd' := hE _ _ hd
      obtain ⟨i, hi, hs1, hz, _⟩ := hd'.info
      have h2 := run_zeroValue' (w := w) ⟨i, hi, hz⟩
      have hcr := TD.zero_sound (w := w) (A := A) (ob := S.ob) (μ := μ) d
      refine ⟨_, _, h, ?_⟩
      have : (execOp a.eval o).run P w = .ok (.value (.pointer (some ⟨w.heap.size, 0, none⟩))) (w.alloc (.cells d.zeroV.toArray t (0, 0))) := by
        simp only [execOp, hx]
        refine run_val ?_
        simp only [Instr.alloc, newVar, Sem.run_bind, h2, Result.andThen, run_newRow', wrapV_cells TD.zeroV_leaf, Sem.run_pure]
      rw [this]
      exact .box (TD.fits_zero d) hcr (by rw [zeroOf_oids]; simp)
    · cases h
  · rename_i t x
    split at h
    · rename_i d hd
      have hd' := hE _ _ hd
      obtain ⟨hc, h⟩ := cond_some h
      simp only [Bool.and_eq_true, Bool.not_eq_true'] at hc
      obtain ⟨hfit, hany⟩ := hc
      have hv := hs.opd x
      refine ⟨_, _, h, ?_⟩
      have : (execOp a.eval o).run P w = .ok (.value (.pointer (some ⟨w.heap.size, 0, none⟩))) (w.alloc (.cells (a.eval x).cells t (0, 0))) := by
        simp only [execOp, hx]
        refine run_val ?_
        simp only [Instr.box, newVar, Sem.run_bind, Result.andThen, run_newRow', Sem.run_pure]
      rw [this]
      rcases hv with hv | hv
      · rw [hany] at hv; cases hv
      · have := QR.box (w := w) (A := A) (ob := S.ob) (μ := μ) (al := al) (t := t) hfit hv.1 (fun hm => (hf _ _ h).slots (opd_oids hm))
        simpa using this
    · cases h
  · rename_i t x y
    have hv := hs.opd x
    have hi := hs.opd y
    split at h
    · rename_i s k n hs' hy
      rw [hs'] at hv
      rw [hy] at hi
      have e1 := hv.str
      have e2 := hi.int
      obtain ⟨hc, h⟩ := cond_some h
      simp only [Bool.and_eq_true] at hc
      obtain ⟨hst, hin⟩ := hc
      obtain ⟨h0, h1⟩ := index_ok (a0 := ⟨0, 0, none⟩) hin
      have hu := isStr_some hE hst
      have hlt : n.toNat < s.size := by omega
      refine .plain h ?_ (.mk_int _ _)
      simp only [execOp, hx, e1, e2]
      refine run_val ?_
      simp only [Instr.index, asIntOf, Sem.run_bind, Sem.run_pure, Result.andThen, run_underlying hu, h0, if_true]
      have hg : s[n.toNat]? = some s[n.toNat] := by simp [hlt]
      simp only [hg, Sem.run_pure, bt]
      have : s.data.getD n.toNat 0 = s[n.toNat] := by
        simp only [Array.getD]
        rw [dif_pos (show n.toNat < s.data.size from hlt)]; rfl
      rw [this]
    · cases h
  · rename_i x i
    have hv := hs.opd x
    split at h
    · rename_i l hl
      rw [hl] at hv
      obtain ⟨vs, e, ht⟩ := hv.tup
      obtain ⟨hlt, h⟩ := cond_some h
      obtain ⟨z, hz, hvz⟩ := ht.get (by simpa using hlt)
      refine .plain h ?_ hvz
      simp only [execOp, hx, e]
      refine run_val ?_
      simp only [Instr.extract, hz, Sem.run_pure]
    · cases h
  · rename_i f first caps
    split at h
    · rename_i hfirst
      have hfe : first = #[] := by simpa using hfirst
      subst hfe
      refine .plain (v := .func (.func f) #[] (caps.map a.eval)) h ?_ (.of_one ?_ rfl rfl)
      · simp only [execOp, hx]
        refine run_val ?_
        simp [Instr.makeFunc]
      · simp only [CR]
        exact ⟨_, rfl, by simpa using hs.trs caps.toList⟩
    · cases h
  · cases h

/-! ### Structs and slices that are written out -/
theorem foldl_splice (cv : List Value) : ∀ (cs : Array Value) (off : Nat), off + cv.length ≤ cs.size → ((cv.zipIdx).foldl (fun cs (c, j) => cs.setIfInBounds (off + j) c) cs).toList = splice cs.toList off cv := by
  have aux : ∀ (cv : List Value) (k : Nat) (cs : Array Value) (off : Nat), off + k + cv.length ≤ cs.size →
      ((cv.zipIdx k).foldl (fun cs (c, j) => cs.setIfInBounds (off + j) c) cs).toList = splice cs.toList (off + k) cv := by
    intro cv
    induction cv with
    | nil => intro k cs off h; simp [splice]
    | cons v cv ih =>
      intro k cs off h
      simp only [List.zipIdx_cons, List.foldl_cons]
      rw [ih (k + 1) _ off (by simp at h ⊢; omega)]
      simp only [splice, Array.toList_setIfInBounds, List.length_cons]
      simp only [List.length_cons] at h
      apply List.ext_getElem?
      intro j
      have hs : cs.toList.length = cs.size := by simp
      simp only [List.getElem?_append, List.getElem?_take, List.getElem?_drop, List.length_take, List.length_set, List.getElem?_cons, List.getElem?_set, hs, List.length_cons]
      by_cases h1 : j < off + k
      · have e1 : j < min (off + (k + 1)) cs.size := by omega
        have e2 : j < min (off + k) cs.size := by omega
        rw [if_pos e1, if_pos (by omega), if_neg (by omega), if_pos e2, if_pos h1]
      · by_cases h2 : j = off + k
        · subst h2
          have e1 : off + k < min (off + (k + 1)) cs.size := by omega
          rw [if_pos e1, if_pos (by omega), if_pos rfl, if_pos (by omega), if_neg (by omega), if_pos (by omega), if_pos (by omega)]
        · have e1 : ¬ j < min (off + (k + 1)) cs.size := by omega
          have e2 : ¬ j < min (off + k) cs.size := by omega
          rw [if_neg e1, if_neg e2]
          have m1 : min (off + (k + 1)) cs.size = off + k + 1 := by omega
          have m2 : min (off + k) cs.size = off + k := by omega
          rw [m1, m2]
          by_cases h3 : j - (off + k + 1) < cv.length
          · rw [if_pos h3, if_pos (by omega), if_neg (by omega)]
            congr 1; try omega
          · rw [if_neg h3, if_neg (by omega), if_neg (by omega)]
            congr 1; try omega
  intro cs off h
  exact aux cv 0 cs off h
theorem fill_step {place : Nat → Option (Nat × Nat)} {cells : Array Value} {i : Nat} {v : Value} {rest : List (Nat × Value)} {off : Nat} (hp : place i = some (off, v.cells.size)) (hb : off + v.cells.size ≤ cells.size) :
    Instr.fill place cells ((i, v) :: rest) = Instr.fill place (splice cells.toList off v.cells.toList).toArray rest := by
  have hne : (v.cells.size != v.cells.size || decide (off + v.cells.size > cells.size)) = false := by simp; omega
  simp only [Instr.fill, hp]
  rw [if_neg (by simp; omega)]
  congr 1
  have : (v.cells.zipIdx.foldl (fun cs (x : Value × Nat) => cs.setIfInBounds (off + x.2) x.1) cells) = (v.cells.toList.zipIdx.foldl (fun cs (x : Value × Nat) => cs.setIfInBounds (off + x.2) x.1) cells) := by
    rw [← Array.foldl_toList]; simp
  apply Array.ext'
  show (v.cells.zipIdx.foldl (fun cs (x : Value × Nat) => cs.setIfInBounds (off + x.2) x.1) cells).toList = _
  rw [this]
  simpa using foldl_splice v.cells.toList cells off (by simpa using hb)
theorem build_fill {place : Nat → Option (Nat × Nat)} {d : TD} (hp : ∀ i off d', d.off [i] = some (off, d') → place i = some (off, d'.cells)) (hs : Slots w A S.ob μ S.slots a) {K : PV → Option ρ} :
    ∀ (parts : List (Nat × Operand)) (v : PV) (cs : Array Value), d.fits v = true → CR w A S.ob μ v cs.toList → evP.buildK S d parts v K = some r →
      ∃ v' cs', K v' = some r ∧ Instr.fill place cs (parts.map fun p => (p.1, a.eval p.2)) = some cs' ∧ d.fits v' = true ∧ CR w A S.ob μ v' cs'.toList
  | [], v, cs, hf, hc, h => ⟨v, cs, by simpa only [evP.buildK] using h, rfl, hf, hc⟩
  | p :: l, v, cs, hf, hc, h => by
    simp only [evP.buildK] at h
    split at h
    · rename_i q hq
      obtain ⟨off, d'⟩ := q
      obtain ⟨hc2, h⟩ := cond_some h
      simp only [Bool.and_eq_true, Bool.not_eq_true'] at hc2
      obtain ⟨hfit, hany⟩ := hc2
      have hv := hs.opd p.2
      rcases hv with hv | hv
      · rw [hany] at hv; cases hv
      · have hlx := TD.fits_len _ _ _ hfit hv.1
        obtain ⟨h1, h2, h3, h4⟩ := TD.path_sound d [p.1] v cs.toList off d' hf hc hq
        obtain ⟨h5, h6⟩ := h4 _ _ hfit hv.1
        have hl := TD.fits_len _ _ _ hf hc
        obtain ⟨v', cs', h7, h8, h9, h10⟩ := build_fill hp hs l _ (splice cs.toList off (a.eval p.2).cells.toList).toArray h6 (by simpa using h5) h
        refine ⟨v', cs', h7, ?_, h9, h10⟩
        simp only [List.map_cons]
        rw [fill_step (off := off) (by rw [hp _ _ _ hq]; simp at hlx; rw [hlx]) (by simp at hlx hl; omega)]
        exact h8
    · cases h
theorem tys_places : ∀ (fields : List Field) (fs : Tys) (base : Nat), TysOK P fields base fs → ∃ places, fields.mapM (fun f => (P.info? f.type).map fun i => (f.offset, i.size)) = some places ∧
    ∀ i off T, Ty.off.go fs i [] = some (off, T) → places[i]? = some (base + off, T.cells)
  | [], .nil, _, _ => ⟨[], by simp, fun _ _ _ h => by simp [Ty.off.go] at h⟩
  | _ :: _, .nil, _, h => by simp [TysOK] at h
  | [], .cons _ _, _, h => by simp [TysOK] at h
  | f :: l, .cons t ts, base, h => by
    simp only [TysOK] at h
    obtain ⟨ho, hp, ht, hl⟩ := h
    obtain ⟨i, hi, hs, _⟩ := ht.info
    obtain ⟨places, h1, h2⟩ := tys_places l ts (base + t.cells) hl
    refine ⟨(f.offset, i.size) :: places, by simp [List.mapM_cons, hi, h1], fun n off T h => ?_⟩
    cases n with
    | zero =>
      have : off = 0 ∧ t = T := by cases t <;> (simp only [Ty.off.go, Ty.off, Option.some.injEq, Prod.mk.injEq] at h; exact ⟨h.1.symm, h.2⟩)
      obtain ⟨rfl, rfl⟩ := this
      simp [ho, hs]
    | succ n =>
      simp only [Ty.off.go, Option.map_eq_some_iff] at h
      obtain ⟨⟨off', T'⟩, h, e⟩ := h
      simp only [Prod.mk.injEq] at e
      obtain ⟨rfl, rfl⟩ := e
      have := h2 n off' T' h
      simpa [Nat.add_assoc] using this
theorem tds_places : ∀ (fields : List Field) (fs : TDs) (base : Nat), TDsOK P fields base fs → ∃ places, fields.mapM (fun f => (P.info? f.type).map fun i => (f.offset, i.size)) = some places ∧
    ∀ i off T, TD.off.go fs i [] = some (off, T) → places[i]? = some (base + off, T.cells)
  | [], .nil, _, _ => ⟨[], by simp, fun _ _ _ h => by simp [TD.off.go] at h⟩
  | _ :: _, .nil, _, h => by simp [TDsOK] at h
  | [], .cons _ _, _, h => by simp [TDsOK] at h
  | f :: l, .cons t ts, base, h => by
    simp only [TDsOK] at h
    obtain ⟨ho, hp, ht, hl⟩ := h
    obtain ⟨i, hi, hs, _⟩ := ht.info
    obtain ⟨places, h1, h2⟩ := tds_places l ts (base + t.cells) hl
    refine ⟨(f.offset, i.size) :: places, by simp [List.mapM_cons, hi, h1], fun n off T h => ?_⟩
    cases n with
    | zero =>
      have : off = 0 ∧ t = T := by cases t <;> (simp only [TD.off.go, TD.off, Option.some.injEq, Prod.mk.injEq] at h; exact ⟨h.1.symm, h.2⟩)
      obtain ⟨rfl, rfl⟩ := this
      simp [ho, hs]
    | succ n =>
      simp only [TD.off.go, Option.map_eq_some_iff] at h
      obtain ⟨⟨off', T'⟩, h, e⟩ := h
      simp only [Prod.mk.injEq] at e
      obtain ⟨rfl, rfl⟩ := e
      have := h2 n off' T' h
      simpa [Nat.add_assoc] using this
theorem td_places {t : TypeId} {d : TD} (hd : TDOK P t d) (hag : d.isAgg = true) : ∃ fields places i, P.underlying t = some (.struct fields) ∧ P.info? t = some i ∧ i.zero = some (.agg d.zeroV.toArray) ∧
    fields.toList.mapM (fun f => (P.info? f.type).map fun i => (f.offset, i.size)) = some places ∧ ∀ i off d', d.off [i] = some (off, d') → places[i]? = some (off, d'.cells) := by
  obtain ⟨i, hi, _, hz, _⟩ := hd.info
  rw [hag] at hz
  cases d with
  | cell k => cases hag
  | data T =>
    cases T <;> try cases hag
    simp only [TDOK, TyOK] at hd
    obtain ⟨_, fields, hu, hk⟩ := hd
    obtain ⟨places, h1, h2⟩ := tys_places _ _ _ hk
    refine ⟨fields, places, i, hu, hi, by simpa [wrapV] using hz, h1, fun n off d' h => ?_⟩
    simp only [TD.off, Ty.off, Option.map_eq_some_iff] at h
    obtain ⟨⟨off', T'⟩, h, e⟩ := h
    simp only [Prod.mk.injEq] at e
    obtain ⟨rfl, rfl⟩ := e
    simpa [TD.cells] using h2 n off' T' h
  | agg ds =>
    simp only [TDOK] at hd
    obtain ⟨_, fields, hu, hk⟩ := hd
    obtain ⟨places, h1, h2⟩ := tds_places _ _ _ hk
    refine ⟨fields, places, i, hu, hi, by simpa [wrapV] using hz, h1, fun n off d' h => ?_⟩
    simp only [TD.off] at h
    simpa using h2 n off d' h
theorem build_sound (hE : EnvTy P E) (hs : Slots w A S.ob μ S.slots a) {t : TypeId} {parts : Array (Nat × Operand)} (hop : o.op = .build t parts) (h : evP E o S al K = some r) : Right P w A μ S a o al K r := by
  simp only [evP, hop] at h
  split at h
  · rename_i d hd
    have hd' := hE _ _ hd
    obtain ⟨hag, h⟩ := cond_some h
    obtain ⟨fields, places, i, hu, hi, hz, hm, hpl⟩ := td_places hd' hag
    obtain ⟨v', cs', h1, h2, h3, h4⟩ := build_fill (place := (places.toArray[·]?)) (fun i off d' h => by simpa using hpl i off d' h) hs parts.toList d.zero d.zeroV.toArray (TD.fits_zero d) (by simpa using TD.zero_sound d) h
    refine .plain (v := .agg cs') h1 ?_ ?_
    · simp only [execOp, hop]
      refine run_val (run_build w t _ cs' ?_)
      simp only [Program.built, hi, hu, hz, hm]
      simpa [Value.cells] using h2
    · have := VR.of_cells h4 (TD.fits_agg h3)
      rw [hag] at this
      simpa [wrapV] using this
  · cases h
theorem VR.implode {ob : Nat → OB} {T : Ty} {v : PV} {x : T.den} {z : Value} (h : Vm.implode T v = some x) (hv : VR w A ob μ v z) : DR w A T x z.cells.toList := by
  rcases hv with hv | hv
  · cases v <;> try cases hv
    cases T <;> simp [Vm.implode, asInt?, asBool?, asStr?, asSl?, asAgg?] at h
  · exact implode_sound _ _ _ _ h hv.1
theorem getElem?_splice {cs cv : List Value} {off j : Nat} (h : off + cv.length ≤ cs.length) : (splice cs off cv)[j]? = if off ≤ j ∧ j < off + cv.length then cv[j - off]? else cs[j]? := by
  simp only [splice, List.getElem?_append, List.getElem?_take, List.getElem?_drop, List.length_take]
  by_cases h1 : j < off
  · rw [if_pos (by omega), if_pos h1, if_neg (by omega)]
  · rw [if_neg (by omega), show min off cs.length = off from by omega]
    by_cases h2 : j - off < cv.length
    · rw [if_pos h2, if_pos ⟨by omega, by omega⟩]
    · rw [if_neg h2, if_neg (by omega)]
      congr 1; omega
theorem parts_fill {T : Ty} (hs : Slots w A S.ob μ S.slots a) : ∀ (parts : List (Nat × Operand)) (i : Nat) (xs : List T.den) (cs : Array Value), evP.implodeParts S T i parts = some xs → (i + parts.length) * T.cells ≤ cs.size →
    ∃ cs', Instr.fill (fun i => some (i * T.cells, T.cells)) cs (parts.map fun p => (p.1, a.eval p.2)) = some cs' ∧ cs'.size = cs.size ∧ xs.length = parts.length ∧ (∀ j, j < i * T.cells → cs'[j]? = cs[j]?) ∧
      ∀ k x, nth (α := T.den) xs k = some x → ∃ cx, DR w A T x cx ∧ ∀ j v, cx[j]? = some v → cs'[(i + k) * T.cells + j]? = some v
  | [], i, xs, cs, h, hl => by
    simp only [evP.implodeParts, Option.some.injEq] at h
    subst h
    exact ⟨cs, rfl, rfl, rfl, fun _ _ => rfl, fun k x hk => by simp [nth] at hk⟩
  | p :: l, i, xs, cs, h, hl => by
    simp only [evP.implodeParts] at h
    obtain ⟨hi, h⟩ := cond_some h
    have hi' : p.1 = i := by simpa using hi
    obtain ⟨x, hx, h⟩ := Option.bind_eq_some_iff.1 h
    obtain ⟨ys, hy, h⟩ := Option.bind_eq_some_iff.1 h
    cases h
    have hdr := VR.implode hx (hs.opd p.2)
    have hlen := DR.len _ _ _ hdr
    have hlen' : (a.eval p.2).cells.size = T.cells := by simpa using hlen
    simp only [List.length_cons] at hl
    have hb : i * T.cells + T.cells ≤ cs.size := by
      have : (i + 1) * T.cells ≤ (i + (l.length + 1)) * T.cells := Nat.mul_le_mul_right _ (by omega)
      rw [Nat.succ_mul] at this
      omega
    have hsz : (splice cs.toList (i * T.cells) (a.eval p.2).cells.toList).length = cs.size := by
      rw [splice_len (by simp [hlen']; omega)]; simp
    obtain ⟨cs', h1, h2, h3, h4, h5⟩ := parts_fill hs l (i + 1) ys (splice cs.toList (i * T.cells) (a.eval p.2).cells.toList).toArray hy (by simp only [List.size_toArray, hsz]; rwa [show i + 1 + l.length = i + (l.length + 1) from by omega])
    refine ⟨cs', ?_, ?_, by simp [h3], fun j hj => ?_, fun k x' hk => ?_⟩
    · simp only [List.map_cons]
      rw [fill_step (off := i * T.cells) (by rw [hi', hlen']) (by rw [hlen']; omega)]
      exact h1
    · rw [h2]; simpa using hsz
    · rw [h4 j (by rw [Nat.succ_mul]; omega)]
      simp only [List.getElem?_toArray]
      rw [getElem?_splice (by simp [hlen']; omega), if_neg (by omega)]
      simp
    · cases k with
      | zero =>
        simp only [nth, List.getElem?_cons_zero, Option.some.injEq] at hk
        subst hk
        refine ⟨_, hdr, fun j v hj => ?_⟩
        have hjl : j < T.cells := by
          have := (List.getElem?_eq_some_iff.1 hj).1
          rw [hlen] at this; exact this
        rw [Nat.add_zero, h4 _ (by rw [Nat.succ_mul]; omega)]
        simp only [List.getElem?_toArray]
        rw [getElem?_splice (by simp [hlen']; omega), if_pos ⟨by omega, by simp [hlen']; omega⟩]
        rw [show i * T.cells + j - i * T.cells = j from by omega]
        exact hj
      | succ k =>
        have hk' : nth (α := T.den) ys k = some x' := by simpa [nth] using hk
        obtain ⟨cx, h6, h7⟩ := h5 k x' hk'
        exact ⟨cx, h6, fun j v hj => by rw [show i + (k + 1) = i + 1 + k from by omega]; exact h7 j v hj⟩
end
end Go.Vm
