/- Vm, part 13: append; a cut of a row. Own work. -/
import Derived.Test.YtfiembgemhonlaaVmEvF
set_option linter.unusedVariables false
set_option linter.unusedSimpArgs false
namespace Go.Vm
open Go.RowKit

section
variable {P : Program} {E : Env} {c : Cx} {S : St} {μ : Nat → Value} {a : Act} {w : World} {o : Oper} {al n : Nat} {ds : List Nat} {ρ : Type} {r : ρ} {K : St → Option ρ} {next : Act → World → Prop} {Q : Exit → Act → World → Prop}
/-- cells, element by element -/
def Elems (w : World) (A : Nat → Prop) (T : Ty) (xs : List T.den) (cs : List Value) : Prop :=
  cs.length = xs.length * T.cells ∧ (∀ v ∈ cs, v.oneCell' = true) ∧ ∀ i x, nth (α := T.den) xs i = some x → ∃ cx, DR w A T x cx ∧ ∀ j v, cx[j]? = some v → cs[i * T.cells + j]? = some v
theorem elems_of {A : Nat → Prop} {T : Ty} {xs : List T.den} {b off : Nat} (h : ∀ i x, nth (α := T.den) xs i = some x → ∃ cx, DR w A T x cx ∧ ∀ j v, cx[j]? = some v → w.cell? ⟨b, off + i * T.cells + j, none⟩ = some v) :
    ∃ cs, Elems w A T xs cs ∧ ∀ d, (loadCells ⟨b, off, none⟩ (xs.length * T.cells)).run P { w with drawn := d } = .ok cs.toArray { w with drawn := d } := by
  have hcell : ∀ j, j < xs.length * T.cells → ∃ v, w.cell? ⟨b, off + j, none⟩ = some v ∧ v.oneCell' = true := fun j hj => by
    have hp : 0 < T.cells := Nat.pos_of_ne_zero (fun e => by rw [e] at hj; simp at hj)
    have hi : j / T.cells < xs.length := by rw [Nat.div_lt_iff_lt_mul hp]; exact hj
    obtain ⟨cx, h1, h2⟩ := h (j / T.cells) xs[j / T.cells] (by simp [nth, hi])
    have hr : j % T.cells < cx.length := by rw [DR.len _ _ _ h1]; exact Nat.mod_lt _ hp
    have h3 := h2 (j % T.cells) _ (List.getElem?_eq_getElem hr)
    have e : off + j / T.cells * T.cells + j % T.cells = off + j := by
      have := Nat.div_add_mod j T.cells
      rw [Nat.mul_comm] at this; omega
    rw [e] at h3
    exact ⟨_, h3, DR.plain _ _ _ h1 _ (List.getElem_mem hr)⟩
  let f : Nat → Value := fun j => (w.cell? ⟨b, off + j, none⟩).getD Go.undef
  have hf : ∀ j, j < xs.length * T.cells → w.cell? ⟨b, off + j, none⟩ = some (f j) := fun j hj => by
    obtain ⟨v, hv, _⟩ := hcell j hj
    simp only [f, hv, Option.getD_some]
  refine ⟨(List.range (xs.length * T.cells)).map f, ⟨by simp, fun v hv => ?_, fun i x hx => ?_⟩, ?_⟩
  · obtain ⟨j, hj, rfl⟩ := List.mem_map.1 hv
    have hj' := List.mem_range.1 hj
    obtain ⟨v, hv, ho⟩ := hcell j hj'
    have := hf j hj'
    rw [hv] at this
    cases this
    exact ho
  · obtain ⟨cx, h1, h2⟩ := h i x hx
    refine ⟨cx, h1, fun j v hj => ?_⟩
    have hjl := (List.getElem?_eq_some_iff.1 hj).1
    rw [DR.len _ _ _ h1] at hjl
    have hil : i < xs.length := (List.getElem?_eq_some_iff.1 hx).1
    have hb : i * T.cells + j < xs.length * T.cells := by
      have : (i + 1) * T.cells ≤ xs.length * T.cells := Nat.mul_le_mul_right _ hil
      rw [Nat.succ_mul] at this; omega
    have h3 := h2 j v hj
    rw [show off + i * T.cells + j = off + (i * T.cells + j) from by omega, hf _ hb] at h3
    simp only [List.getElem?_map, List.getElem?_range hb, Option.map_some]
    exact h3
  · intro d
    exact run_loadCells { w with drawn := d } _ _ f (fun j hj => by rw [Addr.add_lit]; exact hf j hj)
/-- what is to be appended, or was there -/
theorem asData_sound (hsr : SR c S μ a w) {T : Ty} {x : PV} {ys : List T.den} (h : asData S T x = some ys) {z : Value} (hv : VR w (av c S.ob μ) S.ob μ x z) :
    ∃ a0 c0 cs, z = .slice a0 ys.length c0 ∧ Elems w (av c S.ob μ) T ys cs ∧ ∀ d, (Builtin.firstCells T.cells ys.length z).run P { w with drawn := d } = .ok cs.toArray { w with drawn := d } := by
  unfold asData at h
  split at h
  · rename_i U xs
    obtain ⟨e, h⟩ := castL_some h
    subst e; subst h
    have hd := hv.sl
    simp only [DR] at hd
    obtain ⟨a0, c0, ez, _, hd⟩ := hd
    simp only [List.cons.injEq, and_true] at ez
    rcases hd with hd | ⟨b, off, rfl, _, _, hd⟩
    · subst hd
      refine ⟨a0, c0, [], ez, ⟨by simp, by simp, fun i x hx => by simp [nth] at hx⟩, ?_⟩
      intro d
      rw [ez]
      cases a0 with
      | none => simp [Builtin.firstCells]
      | some a0 => simp [Builtin.firstCells, loadCells, loadCellsFrom]
    · obtain ⟨cs, h1, h2⟩ := elems_of (P := P) hd
      exact ⟨_, c0, cs, ez, h1, fun d => by rw [ez]; simpa [Builtin.firstCells] using h2 d⟩
  · cases h
    exact ⟨none, 0, [], hv.nil, ⟨by simp, by simp, fun i x hx => by simp [nth] at hx⟩, fun d => by rw [hv.nil]; simp [Builtin.firstCells]⟩
  · rename_i ob
    split at h
    · rename_i U xs hob
      obtain ⟨e, h⟩ := castL_some h
      subst e; subst h
      have hm := hv.row hob
      have hor := hsr.objs.each ob
      simp only [OR, hob] at hor
      rcases hor with ⟨h0, hm'⟩ | ⟨b, off, c0, cs, tt, hm', hheap, _, _, _, hel⟩
      · rw [hm'] at hm
        have : xs = [] := List.length_eq_zero_iff.1 h0
        subst this
        exact ⟨none, 0, [], hm.symm, ⟨by simp, by simp, fun i x hx => by simp [nth] at hx⟩, fun d => by rw [← hm]; simp [Builtin.firstCells]⟩
      · rw [hm'] at hm
        obtain ⟨cs', h1, h2⟩ := elems_of (P := P) (w := w) (A := av c S.ob μ) (T := U) (xs := xs) (b := b) (off := off) (fun i x hx => by
          obtain ⟨cx, h1, h2⟩ := hel i x hx
          refine ⟨cx, h1, fun j v hj => ?_⟩
          simp only [World.cell?, hheap]
          simpa using h2 j v hj)
        exact ⟨_, c0, cs', hm.symm, h1, fun d => by rw [← hm]; simpa [Builtin.firstCells] using h2 d⟩
    · cases h
  · cases h
theorem growBy_le (newLen : Nat) : ∀ (k c : Nat), c < newLen → Builtin.growBy newLen k c ≤ 2 * newLen + 200
  | 0, c, h => by simp only [Builtin.growBy]; omega
  | k + 1, c, h => by
    simp only [Builtin.growBy]
    rw [if_neg (by omega)]
    by_cases h2 : c + (c + 768) / 4 < newLen
    · exact growBy_le newLen k _ h2
    · cases k with
      | zero => simp only [Builtin.growBy]; omega
      | succ k => simp only [Builtin.growBy]; rw [if_pos (by omega)]; omega
theorem nextcap_le {need cap : Nat} (h : cap < need) : Builtin.nextslicecap need cap ≤ 2 * need + 200 := by
  unfold Builtin.nextslicecap
  split
  · omega
  · split
    · omega
    · exact growBy_le need 4 cap h

theorem run_askRoom' (n : Nat) (w : World) : (askRoom n).run P w = .ok () w := by
  unfold askRoom
  split <;> simp [mark, Sem.run]
theorem run_append_fits {t t2 e e2 ty : TypeId} {T : Ty} (ht : P.underlying t = some (.slice e)) (ht2 : P.underlying t2 = some (.slice e2)) (he : TyOK P e T) {types : Array TypeId} (h1 : types[0]? = some t) (h2 : types[1]? = some t2)
    {b off len cap m : Nat} {cells : Array Value} {tt : TypeId} {z : Value} {a0 : Option Addr} {c0 : Nat} {cs : List Value} (hz : z = .slice a0 m c0) (hh : w.heap[b]? = some (.cells cells tt (0, 0))) (hfit : len + m ≤ cap) (hsz : off + cap * T.cells ≤ cells.size)
    (hx : (Builtin.firstCells T.cells m z).run P w = .ok cs.toArray w) (hl : cs.length = m * T.cells) (hp : ∀ v ∈ cs, v.oneCell' = true) :
    (Builtin.append_ types ty #[.slice (some ⟨b, off, none⟩) len cap, z]).run P w = .ok (.slice (some ⟨b, off, none⟩) (len + m) cap) (w.setRow b (splice cells.toList (off + len * T.cells) cs).toArray) := by
  obtain ⟨i, hi, hs, _⟩ := he.info
  have h3 := run_sizeOf' (w := w) (n := T.cells) ⟨i, hi, hs⟩
  have hst : (storeCells ((⟨b, off, none⟩ : Addr).add (len * T.cells)) cs).run P w = .ok () (w.setRow b (splice cells.toList (off + len * T.cells) cs).toArray) := by
    rw [Addr.add_lit]
    have := run_storeCells_at (P := P) b (off + len * T.cells) tt cs 0 cells w hh (by
      have : (len + m) * T.cells ≤ cap * T.cells := Nat.mul_le_mul_right _ hfit
      rw [Nat.add_mul] at this
      rw [hl]; omega) hp
    rw [this]
    simp only [Nat.add_zero, splice_eq]
  subst hz
  unfold Builtin.append_
  simp only [h1, h2, List.getElem?_toArray, List.getElem?_cons_zero, List.getElem?_cons_succ, Sem.run_bind, run_underlying ht, run_underlying ht2, Result.andThen, h3, Sem.run_pure, Bool.false_eq_true, if_false, Builtin.lenOf]
  rw [if_pos hfit]
  simp only [Bool.not_false, if_true, Sem.run_bind, hx, Result.andThen, hst, Sem.run_pure]
theorem run_append_grow {t t2 e e2 ty : TypeId} {T : Ty} (ht : P.underlying t = some (.slice e)) (ht2 : P.underlying t2 = some (.slice e2)) (he : TyOK P e T) {types : Array TypeId} (h1 : types[0]? = some t) (h2 : types[1]? = some t2)
    {len cap m : Nat} {s z : Value} {a1 a0 : Option Addr} {c0 : Nat} {old cs : List Value} (hsv : s = .slice a1 len cap) (hz : z = .slice a0 m c0) (hgrow : cap < len + m) (hsm : len + m ≤ 4294967296)
    (ho : (Builtin.firstCells T.cells len s).run P w = .ok old.toArray w) (hx : (Builtin.firstCells T.cells m z).run P w = .ok cs.toArray w)
    (hxd : (Builtin.firstCells T.cells m z).run P { w with drawn := w.drawn + 1 } = .ok cs.toArray { w with drawn := w.drawn + 1 }) (hod : (Builtin.firstCells T.cells len s).run P { w with drawn := w.drawn + 1 } = .ok old.toArray { w with drawn := w.drawn + 1 })
    (hl0 : old.length = len * T.cells) (hl : cs.length = m * T.cells) :
    ∃ newCap rest, len + m ≤ newCap ∧ newCap ≤ 9223372036854775807 ∧ (old ++ cs ++ rest).length = newCap * T.cells ∧
    (Builtin.append_ types ty #[s, z]).run P w = .ok (.slice (some ⟨w.heap.size, 0, none⟩) (len + m) newCap) (({ w with drawn := w.drawn + 1 } : World).alloc (.cells (old ++ cs ++ rest).toArray e (0, 0))) := by
  obtain ⟨i, hi, hs, hzv, hby⟩ := he.info
  have h3 := run_sizeOf' (w := w) (n := T.cells) ⟨i, hi, hs⟩
  have h4 := run_zeroValue' (w := { w with drawn := w.drawn + 1 }) ⟨i, hi, hzv⟩
  let nc := (len + m) + w.tape w.drawn (.appendCap (len + m) cap e) % (2 ^ 63 - (len + m))
  have hmod : w.tape w.drawn (.appendCap (len + m) cap e) % (2 ^ 63 - (len + m)) < 2 ^ 63 - (len + m) := Nat.mod_lt _ (by omega)
  refine ⟨nc, (Builtin.zeroCells (zeroV T).toArray (nc - (len + m))).toList, by omega, by simp only [nc]; omega, ?_, ?_⟩
  · have hz : (Builtin.zeroCells (zeroV T).toArray (nc - (len + m))).toList.length = (nc - (len + m)) * T.cells := by
      simp [Builtin.zeroCells, zeroV_len]
    simp only [List.length_append, hl0, hl, hz]
    rw [← Nat.add_mul, ← Nat.add_mul]
    congr 1
    simp only [nc]; omega
  · subst hsv hz
    have hnx := nextcap_le hgrow
    have hb48 : ¬ Builtin.nextslicecap (len + m) cap * i.bytes > 2 ^ 48 := by
      have : Builtin.nextslicecap (len + m) cap * i.bytes ≤ (2 * 4294967296 + 200) * 16384 := Nat.mul_le_mul (by omega) hby
      omega
    have hi64 : ¬ (((len + m : Nat) : Int) > IntKind.i64.max) := by
      have : IntKind.i64.max = 9223372036854775807 := by decide
      rw [this]; omega
    have hch : (choose (.appendCap (len + m) cap e)).run P w = .ok nc { w with drawn := w.drawn + 1 } := by
      simp [choose, Sem.run, Question.forced, Question.cut, nc]
    unfold Builtin.append_
    simp only [h1, h2, List.getElem?_toArray, List.getElem?_cons_zero, List.getElem?_cons_succ, Sem.run_bind, run_underlying ht, run_underlying ht2, Result.andThen, h3, Sem.run_pure, Bool.false_eq_true, if_false, Builtin.lenOf]
    rw [if_neg (by omega)]
    simp only [typeInfo, Sem.run_bind, run_program, hi, Result.andThen, Sem.run_pure]
    rw [if_neg (fun h => hi64 h.1)]
    simp only [Sem.run_bind, run_program, hi, Result.andThen, Sem.run_pure]
    rw [if_neg hb48]
    simp only [Sem.run_bind, hch, Result.andThen, run_program, hi, Sem.run_pure, run_askRoom', hod, Bool.not_false, if_true, hxd, h4, wrapV_cells zeroV_leaf, run_newRow']
    congr 3
    apply Array.ext'
    simp [List.append_assoc]

theorem map_two {α β : Type} {f : α → β} {l : List α} {x y : β} (h : l.map f = [x, y]) : ∃ u v, l = [u, v] ∧ f u = x ∧ f v = y := by
  match l, h with
  | [u, v], h => simp at h; exact ⟨u, v, rfl, h.1, h.2⟩
theorem elems_append {A : Nat → Prop} {T : Ty} {xs ys : List T.den} {c1 c2 : List Value} (h1 : Elems w A T xs c1) (h2 : Elems w A T ys c2) : Elems w A T (xs ++ ys) (c1 ++ c2) := by
  obtain ⟨l1, p1, e1⟩ := h1
  obtain ⟨l2, p2, e2⟩ := h2
  refine ⟨by rw [List.length_append, List.length_append, l1, l2, Nat.add_mul], fun v hv => ?_, fun i x hx => ?_⟩
  · rcases List.mem_append.1 hv with hv | hv
    · exact p1 v hv
    · exact p2 v hv
  · simp only [nth, List.getElem?_append] at hx
    split at hx
    · rename_i hlt
      obtain ⟨cx, h3, h4⟩ := e1 i x hx
      refine ⟨cx, h3, fun j v hj => ?_⟩
      have h5 := h4 j v hj
      rw [List.getElem?_append_left (List.getElem?_eq_some_iff.1 h5).1]
      exact h5
    · rename_i hge
      obtain ⟨cx, h3, h4⟩ := e2 _ x hx
      refine ⟨cx, h3, fun j v hj => ?_⟩
      have h5 := h4 j v hj
      have hm : xs.length * T.cells ≤ i * T.cells := Nat.mul_le_mul_right _ (by omega)
      rw [List.getElem?_append_right (by omega), l1, show i * T.cells + j - xs.length * T.cells = (i - xs.length) * T.cells + j from by rw [Nat.sub_mul]; omega]
      exact h5
/-- a new row of these elements -/
theorem QR.elems {A : Nat → Prop} {ob : Nat → OB} {T : Ty} {xs : List T.den} {cs rest : List Value} {cap : Nat} {t : TypeId} {w' : World} (h : Elems w A T xs cs) (hw : w' = ({ w with drawn := w.drawn + 1 } : World).alloc (.cells (cs ++ rest).toArray t (0, 0)))
    (hn : xs.length ≤ cap) (hc : cap ≤ 9223372036854775807) (hs : (cs ++ rest).length = cap * T.cells) :
    QR w A ob μ al (.ok (.value (.slice (some ⟨w.heap.size, 0, none⟩) xs.length cap)) w') (.row al) (some (.row T xs)) := by
  have hd : ∀ T' x cx, DR w A T' x cx → DR { w with drawn := w.drawn + 1 } A T' x cx := fun T' x cx h => DR.keep (Keep.drew None w) (fun _ _ h => h) (fun _ h => h.elim) T' x cx h
  obtain ⟨v, w2, e, hk, mv, h1, h2, h3⟩ := QR.row (w := { w with drawn := w.drawn + 1 }) (A := A) (ob := ob) (μ := μ) (al := al) (T := T) (xs := xs) (cs := (cs ++ rest).toArray) (c := cap) (t := t) (w' := w') hw hn hc (by simpa using Nat.le_of_eq hs.symm) (fun i x hx => by
    obtain ⟨cx, h4, h5⟩ := h.2.2 i x hx
    refine ⟨cx, hd _ _ _ h4, fun j v hj => ?_⟩
    have h6 := h5 j v hj
    simp only [List.getElem?_toArray]
    rw [List.getElem?_append_left (List.getElem?_eq_some_iff.1 h6).1]
    exact h6)
  exact ⟨v, w2, e, (Keep.drew None w).trans hk (fun _ h => h) (fun _ _ h => h), mv, h1, h2, h3⟩
theorem append_sound (hE : EnvTy P E) (hsr : SR c S μ a w) {c0 : Call} (hop : o.op = .call c0) (hcal : c0.callee = .builtin .append) (h : evF E o S al K = some r) (hd : ∀ t, o.dst = some t → t ∈ ds) (hn : n ≤ al) (hn' : n ≤ S.objs.length)
    (hnext : ∀ S' μ' a' w', K S' = some r → SR c S' μ' a' w' → Ag n ds S μ S' μ' → next a' w') : o.wp P a w next Q := by
  simp only [evF, hop, hcal] at h
  split at h
  · rename_i s x t t2 ts hargs htys
    obtain ⟨y1, y2, hy, rfl, rfl⟩ := map_two hargs
    have hA : c0.args = #[y1, y2] := by simpa using congrArg List.toArray hy
    have hT : c0.argTypes[0]? = some t ∧ c0.argTypes[1]? = some t2 := by
      have : c0.argTypes = (t :: t2 :: ts).toArray := by simpa using congrArg List.toArray htys
      rw [this]; simp
    split at h
    · rename_i T T2 hT1 hT2
      obtain ⟨e, hte, heT, hpos⟩ := elem_some hE hT1
      obtain ⟨e2, hte2, _, _⟩ := elem_some hE hT2
      obtain ⟨ys, hys, h⟩ := optK_some h
      obtain ⟨a0, c1, cs, hz, hel, hcs⟩ := asData_sound (P := P) hsr hys (hsr.slots.opd y2)
      have hv1 := hsr.slots.opd y1
      have hrun : ∀ (v : Value) (w' : World), (Builtin.append_ c0.argTypes o.type #[a.eval y1, a.eval y2]).run P w = .ok v w' → (execOp a.eval o).run P w = .ok (.value v) w' := fun v w' hr => by
        obtain ⟨cc, hcc⟩ := run_builtin (P := P) (a := a) (w := w) hop hcal
        rw [hcc]
        simp only [builtin]
        refine run_val ?_
        simpa [hA] using hr
      split at h
      · rename_i hs0
        rw [hs0] at hv1
        have e1 := hv1.nil
        obtain ⟨hlim, h⟩ := cond_some h
        simp only [decide_eq_true_eq] at hlim
        have hfr := fresh_iff (cond_some h).1
        have hk := (cond_some h).2
        by_cases h0 : ys.length = 0
        · have hys0 : ys = [] := List.length_eq_zero_iff.1 h0
          subst hys0
          have hr : (Builtin.append_ c0.argTypes o.type #[a.eval y1, a.eval y2]).run P w = .ok (.slice none 0 0) w := by
            obtain ⟨i, hi, hs, _⟩ := heT.info
            have h3 := run_sizeOf' (w := w) (n := T.cells) ⟨i, hi, hs⟩
            have hcs0 : cs = [] := List.length_eq_zero_iff.1 (by rw [hel.1]; simp)
            subst hcs0
            have hx0 := hcs w.drawn
            rw [e1, hz] at *
            unfold Builtin.append_
            simp only [hT.1, hT.2, List.getElem?_toArray, List.getElem?_cons_zero, List.getElem?_cons_succ, Sem.run_bind, run_underlying hte, run_underlying hte2, Result.andThen, h3, Sem.run_pure, Bool.false_eq_true, if_false, Builtin.lenOf]
            rw [if_pos (by simp)]
            simp only [Bool.not_false, if_true, Sem.run_bind, Result.andThen, Sem.run_pure]
            have : (Builtin.firstCells T.cells ([] : List T.den).length (.slice a0 ([] : List T.den).length c1)).run P w = .ok #[] w := by simpa using hx0
            rw [this]
            simp
          refine wp_value (hrun _ _ hr) ?_
          obtain ⟨μ', h1, h2⟩ := hsr.add (d := o.dst) (al := al) (w' := w) (pv := .row al) (v := .slice none 0 0) (nb := some (.row T [])) (Keep.refl _ _) (fun _ _ => hfr)
            ⟨.slice none 0 0, fun x hx => by simp [blkOf] at hx, by unfold OR; rw [upd_same, upd_same]; exact .inl ⟨rfl, rfl⟩, .of_one (by simp only [CR, upd_same]; exact ⟨_, rfl, rfl, rfl⟩) rfl rfl⟩
          exact hnext _ μ' _ _ hk h1 (h2 n ds hd hn hn')
        · obtain ⟨nc, rest, h1, h2, h3, h4⟩ := run_append_grow (P := P) (w := w) (ty := o.type) hte hte2 heT hT.1 hT.2 (len := 0) (cap := 0) (m := ys.length) (s := a.eval y1) (z := a.eval y2) (old := []) (cs := cs) e1 hz (by omega) (by omega)
            (by rw [e1]; simp [Builtin.firstCells]) (hcs w.drawn) (hcs _) (by rw [e1]; simp [Builtin.firstCells]) (by simp) hel.1
          rw [Nat.zero_add, List.nil_append] at h4
          have hq := QR.elems (μ := μ) (al := al) (ob := S.ob) hel rfl (by simpa using h1) h2 (by simpa using h3) (t := e)
          obtain ⟨v, w', hr, hkp, hvr⟩ := hq
          simp only [Result.ok.injEq, Next.value.injEq] at hr
          obtain ⟨rfl, rfl⟩ := hr
          refine wp_value (hrun _ _ h4) ?_
          obtain ⟨μ', h5, h6⟩ := hsr.add (d := o.dst) (al := al) (nb := some (.row T ys)) hkp (fun _ _ => hfr) hvr
          exact hnext _ μ' _ _ hk h5 (h6 n ds hd hn hn')
      · rename_i ob hs0
        rw [hs0] at hv1
        split at h
        · rename_i U zs hob
          obtain ⟨xs, hxs, h⟩ := optK_some h
          obtain ⟨eU, hxs⟩ := castL_some hxs
          subst eU; subst hxs
          obtain ⟨hlim, hk⟩ := cond_some h
          simp only [Bool.and_eq_true, decide_eq_true_eq] at hlim
          obtain ⟨hfr, hlim⟩ := hlim
          have hfr := fresh_iff hfr
          have hal : (S.ob ob).alive = true := by rw [hob]; rfl
          have hm := hv1.row hob
          obtain ⟨a1, c2, old, hsv, heo, hcs0⟩ := asData_sound (P := P) hsr (T := U) (x := .row ob) (ys := zs) (by simp [asData, hob, castL]) hv1
          have hor := hsr.objs.each ob
          simp only [OR, hob] at hor
          -- room, or not
          by_cases hfit : zs.length + ys.length ≤ c2 ∧ ¬ (zs.length = 0 ∧ μ ob = .slice none 0 0)
          · obtain ⟨hfit, hnn⟩ := hfit
            rcases hor with hor | ⟨b, off, c3, cells, tt, hm', hheap, hlc, hc63, hsz, hel0⟩
            · exact absurd hor hnn
            · rw [hm'] at hm
              rw [← hm] at hsv
              simp only [Value.slice.injEq] at hsv
              obtain ⟨rfl, _, rfl⟩ := hsv
              have hr := run_append_fits (P := P) (w := w) (ty := o.type) hte hte2 heT hT.1 hT.2 (b := b) (off := off) (len := zs.length) (cap := c3) (m := ys.length) hz hheap hfit hsz (hcs w.drawn) hel.1 hel.2.1
              rw [hm] at hr
              refine wp_value (hrun _ _ hr) ?_
              have hspl : off + zs.length * U.cells + cs.length ≤ cells.toList.length := by
                have : (zs.length + ys.length) * U.cells ≤ c3 * U.cells := Nat.mul_le_mul_right _ hfit
                rw [Nat.add_mul] at this
                rw [hel.1]; simp only [Array.length_toList]; omega
              have hbk : av c S.ob μ b := .inr ⟨ob, hal, by rw [hm']; rfl⟩
              obtain ⟨μ', h5, h6⟩ := hsr.consume (o := ob) (al := al) (nb := .row U (zs ++ ys)) (mv := .slice (some ⟨b, off, none⟩) (zs.length + ys.length) c3) (d := o.dst) (pv := .row al) hal hfr rfl
                (w' := w.setRow b (splice cells.toList (off + zs.length * U.cells) cs).toArray) ((Keep.setRow w b _).mono (fun x _ e => by rw [hm']; simp [blkOf, e]))
                (fun x hx => by simp only [blkOf, Option.some.injEq] at hx; subst hx; exact ⟨Nat.lt_of_lt_of_le (hsr.objs.old b hbk) (Keep.setRow w b _).size, .inl (by rw [hm']; rfl)⟩)
                (by
                  unfold OR
                  rw [upd_same, upd_same]
                  refine .inr ⟨b, off, c3, _, tt, by rw [List.length_append], setRow_at hheap, by rw [List.length_append]; exact hfit, hc63, by simp only [List.size_toArray, splice_len hspl, Array.length_toList]; exact hsz, fun i x hx => ?_⟩
                  have hkp : ∀ T' x cx, DR w (av c S.ob μ) T' x cx → DR (w.setRow b (splice cells.toList (off + zs.length * U.cells) cs).toArray) (addA (av c S.ob μ) (.slice (some ⟨b, off, none⟩) (zs.length + ys.length) c3)) T' x cx := fun T' x cx h =>
                    DR.keep (Keep.setRow w b _) (fun y _ hy => by
                      rcases hy with hy | hy
                      · exact hy
                      · simp only [blkOf, Option.some.injEq] at hy; subst hy; exact hbk) (fun y e => by subst e; exact hbk) T' x cx h
                  simp only [nth, List.getElem?_append] at hx
                  split at hx
                  · rename_i hlt
                    obtain ⟨cx, h7, h8⟩ := hel0 i x hx
                    refine ⟨cx, hkp _ _ _ h7, fun j v hj => ?_⟩
                    have hjl := (List.getElem?_eq_some_iff.1 hj).1
                    rw [DR.len _ _ _ h7] at hjl
                    have : (i + 1) * U.cells ≤ zs.length * U.cells := Nat.mul_le_mul_right _ hlt
                    rw [Nat.succ_mul] at this
                    simp only [List.getElem?_toArray]
                    rw [getElem?_splice hspl, if_neg (by omega)]
                    simpa using h8 j v hj
                  · rename_i hge
                    obtain ⟨cx, h7, h8⟩ := hel.2.2 _ x hx
                    refine ⟨cx, hkp _ _ _ h7, fun j v hj => ?_⟩
                    have h9 := h8 j v hj
                    have hlt := (List.getElem?_eq_some_iff.1 h9).1
                    have hmm : zs.length * U.cells ≤ i * U.cells := Nat.mul_le_mul_right _ (by omega)
                    have hsub : (i - zs.length) * U.cells = i * U.cells - zs.length * U.cells := Nat.sub_mul _ _ _
                    simp only [List.getElem?_toArray]
                    rw [getElem?_splice hspl, if_pos ⟨by omega, by omega⟩, show off + i * U.cells + j - (off + zs.length * U.cells) = (i - zs.length) * U.cells + j from by omega]
                    exact h9)
                (.of_one (by simp only [CR, upd_same]; exact ⟨_, rfl, rfl, rfl⟩) rfl rfl)
              exact hnext _ μ' _ _ hk h5 (h6 n ds hd hn hn')
          · by_cases hgr : c2 < zs.length + ys.length
            · obtain ⟨nc, rest, h1, h2, h3, h4⟩ := run_append_grow (P := P) (w := w) (ty := o.type) hte hte2 heT hT.1 hT.2 hsv hz hgr (by omega) (hcs0 w.drawn) (hcs w.drawn) (hcs _) (hcs0 _) heo.1 hel.1
              obtain ⟨v, w', hr, hkp, mv, hb1, hor2, hvr⟩ := QR.elems (μ := μ) (al := al) (ob := upd S.ob ob .dead) (elems_append heo hel) rfl (by simpa using h1) h2 h3 (t := e)
              simp only [Result.ok.injEq, Next.value.injEq] at hr
              obtain ⟨rfl, rfl⟩ := hr
              rw [List.length_append] at hvr
              refine wp_value (hrun _ _ h4) ?_
              obtain ⟨μ', h5, h6⟩ := hsr.consume (o := ob) (al := al) (nb := .row U (zs ++ ys)) (mv := mv) (d := o.dst) (pv := .row al) hal hfr rfl (hkp.mono fun _ _ h => h.elim)
                (fun x hx => ⟨(hb1 x hx).2, .inr (hb1 x hx).1⟩) hor2 hvr
              exact hnext _ μ' _ _ hk h5 (h6 n ds hd hn hn')
            · have hnil : zs.length = 0 ∧ μ ob = .slice none 0 0 := by
                rcases Classical.em (zs.length = 0 ∧ μ ob = .slice none 0 0) with h' | h'
                · exact h'
                · exact absurd ⟨by omega, h'⟩ hfit
              obtain ⟨hz0, hnil⟩ := hnil
              rw [hnil] at hm
              rw [← hm] at hsv
              simp only [Value.slice.injEq] at hsv
              obtain ⟨_, _, hc2⟩ := hsv
              have hy0 : ys = [] := List.length_eq_zero_iff.1 (by omega)
              have hzs : zs = [] := List.length_eq_zero_iff.1 hz0
              subst hy0 hzs
              have hr : (Builtin.append_ c0.argTypes o.type #[a.eval y1, a.eval y2]).run P w = .ok (.slice none 0 0) w := by
                obtain ⟨i, hi, hs, _⟩ := heT.info
                have h3 := run_sizeOf' (w := w) (n := U.cells) ⟨i, hi, hs⟩
                have hcs0 : cs = [] := List.length_eq_zero_iff.1 (by rw [hel.1]; simp)
                subst hcs0
                have hx0 := hcs w.drawn
                rw [← hm, hz] at *
                unfold Builtin.append_
                simp only [hT.1, hT.2, List.getElem?_toArray, List.getElem?_cons_zero, List.getElem?_cons_succ, Sem.run_bind, run_underlying hte, run_underlying hte2, Result.andThen, h3, Sem.run_pure, Bool.false_eq_true, if_false, Builtin.lenOf]
                rw [if_pos (by simp)]
                simp only [Bool.not_false, if_true, Sem.run_bind, Result.andThen, Sem.run_pure]
                have : (Builtin.firstCells U.cells ([] : List U.den).length (.slice a0 ([] : List U.den).length c1)).run P w = .ok #[] w := by simpa using hx0
                rw [this]
                simp
              refine wp_value (hrun _ _ hr) ?_
              obtain ⟨μ', h5, h6⟩ := hsr.consume (o := ob) (al := al) (nb := .row U ([] ++ [])) (mv := .slice none 0 0) (d := o.dst) (pv := .row al) hal hfr rfl (Keep.refl _ w)
                (fun x hx => by simp [blkOf] at hx) (by unfold OR; rw [upd_same, upd_same]; exact .inl ⟨rfl, rfl⟩) (.of_one (by simp only [CR, upd_same]; exact ⟨_, rfl, rfl, rfl⟩) rfl rfl)
              exact hnext _ μ' _ _ hk h5 (h6 n ds hd hn hn')
        · cases h
      · cases h
    · cases h
  · cases h

theorem rowSlice_sound (hE : EnvTy P E) (hsr : SR c S μ a w) {t : TypeId} {x : Operand} {lo hi mx : Option Operand} (hop : o.op = .slice t x lo hi mx) (h : evF E o S al K = some r) (hd : ∀ t, o.dst = some t → t ∈ ds) (hn : n ≤ al) (hn' : n ≤ S.objs.length)
    (hnext : ∀ S' μ' a' w', K S' = some r → SR c S' μ' a' w' → Ag n ds S μ S' μ' → next a' w') : o.wp P a w next Q := by
  simp only [evF, hop] at h
  have hv := hsr.slots.opd x
  split at h
  · rename_i ob hx
    rw [hx] at hv
    split at h
    · rename_i T zs U hob hU
      obtain ⟨e, hte, heT, hpos⟩ := elem_some hE hU
      obtain ⟨l, h, hl⟩ := boundK_some hsr.slots h
      obtain ⟨hh, h, hhh⟩ := boundK_some hsr.slots h
      obtain ⟨hc, hk⟩ := cond_some h
      simp only [Bool.and_eq_true, decide_eq_true_eq] at hc
      obtain ⟨hfr, hUT, h0, h1, h2⟩ := hc
      subst hUT
      have hfr := fresh_iff hfr
      have hal : (S.ob ob).alive = true := by rw [hob]; rfl
      have hm := hv.row hob
      have hor := hsr.objs.each ob
      simp only [OR, hob] at hor
      obtain ⟨i, hi', hsz, _⟩ := heT.info
      have h5 := run_sizeOf' (w := w) (n := U.cells) ⟨i, hi', hsz⟩
      have hlen : List.length (List.drop l.toNat (List.take hh.toNat zs)) = hh.toNat - l.toNat := by
        rw [List.length_drop, List.length_take]; omega
      have hrun : ∀ (a' : Option Addr) (cp : Nat), a.eval x = .slice a' zs.length cp → zs.length ≤ cp →
          (execOp a.eval o).run P w = .ok (.value (.slice (if cp = l.toNat then a' else a'.map (·.add (l.toNat * U.cells))) (hh.toNat - l.toNat) (cp - l.toNat))) w := fun a' cp ex hcap => by
        simp only [execOp, hop]
        refine run_val ?_
        rw [ex]
        simp only [Instr.sliceAt, Sem.run_bind, run_underlying hte, Result.andThen, Option.map_none]
        simp only [Instr.slice, Sem.run_bind, run_underlying hte, Result.andThen, run_sliceBounds hl hhh h0 h1 h2 hcap, h5, Sem.run_pure]
      rcases hor with ⟨hz0, hm'⟩ | ⟨b, off, cp, cells, tt, hm', hheap, hlc, hc63, hsize, hel⟩
      · rw [hm'] at hm
        have e1 : a.eval x = .slice none zs.length 0 := by rw [← hm, hz0]
        refine wp_value (hrun none 0 e1 (by omega)) ?_
        have el : l.toNat = 0 := by omega
        have eh : hh.toNat = 0 := by omega
        simp only [el, eh, if_true, Nat.sub_self]
        obtain ⟨μ', h6, h7⟩ := hsr.consume (o := ob) (al := al) (nb := .row U ((zs.take hh.toNat).drop l.toNat)) (mv := .slice none 0 0) (d := o.dst) (pv := .row al) hal hfr rfl (Keep.refl _ w)
          (fun x hx => by simp [blkOf] at hx) (by unfold OR; rw [upd_same, upd_same]; exact .inl ⟨by rw [hlen]; omega, rfl⟩) (.of_one (by simp only [CR, upd_same]; exact ⟨_, rfl, rfl, rfl⟩) rfl rfl)
        exact hnext _ μ' _ _ hk h6 (h7 n ds hd hn hn')
      · rw [hm'] at hm
        refine wp_value (hrun _ cp hm.symm hlc) ?_
        have hbk : av c S.ob μ b := .inr ⟨ob, hal, by rw [hm']; rfl⟩
        let o2 := if cp = l.toNat then off else off + l.toNat * U.cells
        have ho2 : (if cp = l.toNat then some (⟨b, off, none⟩ : Addr) else (some (⟨b, off, none⟩ : Addr)).map (·.add (l.toNat * U.cells))) = some ⟨b, o2, none⟩ := by
          simp only [o2]
          split
          · rfl
          · simp [Addr.add_lit]
        rw [ho2]
        obtain ⟨μ', h6, h7⟩ := hsr.consume (o := ob) (al := al) (nb := .row U ((zs.take hh.toNat).drop l.toNat)) (mv := .slice (some ⟨b, o2, none⟩) (hh.toNat - l.toNat) (cp - l.toNat)) (d := o.dst) (pv := .row al) hal hfr rfl (Keep.refl _ w)
          (fun x hx => by simp only [blkOf, Option.some.injEq] at hx; subst hx; exact ⟨hsr.objs.old b hbk, .inl (by rw [hm']; rfl)⟩)
          (by
            unfold OR
            rw [upd_same, upd_same]
            have hmul : l.toNat * U.cells + (cp - l.toNat) * U.cells = cp * U.cells := by
              rw [← Nat.add_mul]; congr 1; omega
            refine .inr ⟨b, o2, cp - l.toNat, cells, tt, by rw [hlen], hheap, by rw [hlen]; omega, by omega, ?_, fun i y hy => ?_⟩
            · simp only [o2]
              split
              · have : cp - l.toNat = 0 := by omega
                rw [this]; omega
              · omega
            · obtain ⟨hy', hlt⟩ := drop_nth hy
              obtain ⟨cx, h8, h9⟩ := hel _ _ hy'
              refine ⟨cx, DR.keep (Keep.refl None w) (fun y _ hy => by
                rcases hy with hy | hy
                · exact hy
                · simp only [blkOf, Option.some.injEq] at hy; subst hy; exact hbk) (fun _ h => h.elim) U y cx h8, fun j v hj => ?_⟩
              have h10 := h9 j v hj
              rw [Nat.add_mul] at h10
              simp only [o2]
              rw [if_neg (by omega), show off + l.toNat * U.cells + i * U.cells + j = off + (l.toNat * U.cells + i * U.cells) + j from by omega]
              exact h10)
          (.of_one (by simp only [CR, upd_same]; exact ⟨_, rfl, rfl, rfl⟩) rfl rfl)
        exact hnext _ μ' _ _ hk h6 (h7 n ds hd hn hn')
    · cases h
  · exact quiet_step hE hsr h hd hn hn' hnext
end
end Go.Vm
