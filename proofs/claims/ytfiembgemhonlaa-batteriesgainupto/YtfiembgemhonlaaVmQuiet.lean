/- Vm, part 7: the operations that change nothing. Own work. -/
import Derived.Test.YtfiembgemhonlaaVmData
set_option linter.unusedVariables false
set_option linter.unusedSimpArgs false
namespace Go.Vm
open Go.RowKit

theorem oneCell_aggV {x : Value} (h : x.oneCell' = true) : aggV x = false := by cases x <;> simp_all [Value.oneCell', aggV]
theorem CR.leaf {w : World} {A : Nat → Prop} {ob : Nat → OB} {μ : Nat → Value} {v : PV} {x : Value} (h : CR w A ob μ v [x]) (hv : v.isAgg = false) (ha : v.isAny = false) : aggV x = false := by
  cases v <;> simp only [CR] at h <;> first
    | (cases hv; done)
    | (cases ha; done)
    | (simp only [List.cons.injEq, and_true] at h; subst h; first | rfl | (rename_i k; cases k <;> rfl))
    | (have e := h.1; simp only [List.cons.injEq, and_true] at e; rw [e]; rfl)
    | (obtain ⟨_, e, ha, _⟩ := h; simp at e; subst e; exact oneCell_aggV ha)
    | (obtain ⟨_, e, _⟩ := h; simp at e; subst e; rfl)
    | (simp only [DR] at h; obtain ⟨_, _, e, _⟩ := h; simp at e; subst e; rfl)
    | (obtain ⟨_, _, _, e, _⟩ := h; simp at e; subst e; rfl)
/-- cells as a value -/
theorem VR.of_cells {w : World} {A : Nat → Prop} {ob : Nat → OB} {μ : Nat → Value} {v : PV} {cs : List Value} (h : CR w A ob μ v cs) {b : Bool} (hb : v.isAgg = b) : VR w A ob μ v (wrapV b cs) := by
  subst hb
  by_cases ha : v.isAny = true
  · exact .inl ha
  · simp only [Bool.not_eq_true] at ha
    cases hv : v.isAgg
    · have hl := h.len_one hv
      match cs, hl with
      | [x], _ => exact .of_one h (h.leaf hv ha) hv
    · refine .inr ⟨by simpa [wrapV, Value.cells] using h, by simp [wrapV, aggV, hv]⟩

section
variable {P : Program} {w : World}
theorem run_loadVar' {t : TypeId} {d : TD} (ht : TDOK P t d) {b off : Nat} {cs : List Value} (hc : LiesAt w b off cs) (hl : cs.length = d.cells) :
    (loadVar t ⟨b, off, none⟩).run P w = .ok (wrapV d.isAgg cs) w := by
  have h1 := run_isAgg' (w := w) ht.agg
  obtain ⟨i, hi, hs, _⟩ := ht.info
  have h2 := run_sizeOf' (w := w) (n := d.cells) ⟨i, hi, hs⟩
  unfold loadVar
  simp only [Sem.run_bind, h1, Result.andThen]
  cases ha : d.isAgg
  · have : d.cells = 1 := TD.cells_one ha
    match cs, (hl.trans this) with
    | [x], _ =>
      have := hc 0 x rfl
      simp only [Nat.add_zero] at this
      simp [run_load, this, wrapV]
  · simp only [if_true, Sem.run_bind, h2, Result.andThen]
    have := run_loadCells_list (P := P) w ⟨b, off, none⟩ cs (fun j v hj => by rw [show (⟨b, off, none⟩ : Addr).add j = ⟨b, off + j, none⟩ from Addr.add_lit _ _ _]; exact hc j v hj)
    rw [hl] at this
    rw [this]
    simp [wrapV]
end

/-! ### What is made -/
theorem alloc_at (w : World) (o : Obj) : (w.alloc o).heap[w.heap.size]? = some o := by
  show (w.heap.push o)[w.heap.size]? = _
  simp
theorem upd_same {α : Type} (f : Nat → α) (a : Nat) (b : α) : upd f a b a = b := by simp [upd]
theorem upd_other {α : Type} (f : Nat → α) {a x : Nat} (b : α) (h : x ≠ a) : upd f a b x = f x := by simp [upd, h]
theorem later_upd {ob : Nat → OB} {μ : Nat → Value} {al o : Nat} (b : OB) (mv : Value) (h : o ≠ al) : Later ob μ (upd ob al b) (upd μ al mv) o := by
  unfold Later
  rw [upd_other _ _ h, upd_other _ _ h]
  cases hb : ob o <;> simp
section
variable {w : World} {A : Nat → Prop} {ob : Nat → OB} {μ : Nat → Value} {al : Nat}
theorem addA_old {mv : Value} (h : ∀ x, blkOf mv = some x → w.heap.size ≤ x) : ∀ b, b < w.heap.size → addA A mv b → A b := fun b hb h' => by
  rcases h' with h' | h'
  · exact h'
  · have := h b h'; omega
theorem QR.box {d : TD} {v : PV} {cs : List Value} {t : TypeId} (hf : d.fits v = true) (hc : CR w A ob μ v cs) (hal : al ∉ v.oids) :
    QR w A ob μ al (.ok (.value (.pointer (some ⟨w.heap.size, 0, none⟩))) (w.alloc (.cells cs.toArray t (0, 0)))) (.ptr al []) (some (.box d v)) := by
  refine ⟨_, _, rfl, Keep.alloc _ _ _ _, .pointer (some ⟨w.heap.size, 0, none⟩), fun x hx => ?_, ?_, ?_⟩
  · simp only [blkOf, Option.some.injEq] at hx; subst hx; simp
  · unfold OR
    rw [upd_same, upd_same]
    refine ⟨w.heap.size, cs.toArray, t, rfl, alloc_at _ _, hf, ?_⟩
    exact CR.later (Keep.alloc None w _ _) (addA_old fun x hx => by simp only [blkOf, Option.some.injEq] at hx; omega) (fun _ h => h.elim) v (fun o ho => later_upd _ _ (fun e => hal (by subst e; exact ho))) _ hc
  · refine .of_one ?_ rfl rfl
    simp only [CR, upd_same]
    refine ⟨_, rfl, rfl, w.heap.size, 0, d, rfl, ?_, rfl⟩
    cases d <;> simp [TD.off]
theorem QR.row {T : Ty} {xs : List T.den} {cs : Array Value} {c : Nat} {t : TypeId} {w' : World} (hw : w' = w.alloc (.cells cs t (0, 0))) (hn : xs.length ≤ c) (hc : c ≤ 9223372036854775807) (hs : c * T.cells ≤ cs.size)
    (hx : ∀ i x, nth (α := T.den) xs i = some x → ∃ cx, DR w A T x cx ∧ ∀ j v, cx[j]? = some v → cs[i * T.cells + j]? = some v) :
    QR w A ob μ al (.ok (.value (.slice (some ⟨w.heap.size, 0, none⟩) xs.length c)) w') (.row al) (some (.row T xs)) := by
  subst hw
  refine ⟨_, _, rfl, Keep.alloc _ _ _ _, .slice (some ⟨w.heap.size, 0, none⟩) xs.length c, fun x hx => ?_, ?_, ?_⟩
  · simp only [blkOf, Option.some.injEq] at hx; subst hx; simp
  · unfold OR
    rw [upd_same, upd_same]
    refine .inr ⟨w.heap.size, 0, c, cs, t, rfl, alloc_at _ _, hn, hc, by omega, fun i x hi => ?_⟩
    obtain ⟨cx, h1, h2⟩ := hx i x hi
    exact ⟨cx, DR.keep (Keep.alloc None w _ _) (addA_old fun x hx => by simp only [blkOf, Option.some.injEq] at hx; omega) (fun _ h => h.elim) T x cx h1, fun j v hj => by rw [Nat.zero_add]; exact h2 j v hj⟩
  · refine .of_one ?_ rfl rfl
    simp only [CR, upd_same]
    exact ⟨_, rfl, rfl, rfl⟩
end
end Go.Vm
