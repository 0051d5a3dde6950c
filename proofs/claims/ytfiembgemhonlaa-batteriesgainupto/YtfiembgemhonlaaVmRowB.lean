/- Vm, part 27: from a function's contract to a statement's. Own work. -/
import Derived.Test.YtfiembgemhonlaaVmRow
set_option linter.unusedVariables false
set_option linter.unusedSimpArgs false
namespace Go.Vm
open Go.RowKit Go.ChangeShapes Go.WideShapes Go.ChangeAt
section
variable {H : Type} {enc : TypeId × Value → H} {P : Program}
theorem Keep.keptBut {w w' : World} (h : Keep None w w') (may : MemPlace → Prop) : w.keptBut w' may := by
  refine ⟨h.os, h.output, fun i hi => ?_⟩
  rw [h.block i hi (fun x => x)]
  exact (World.keptBut_refl w may).2.2 i hi
theorem Keep.sameAt {w w' : World} (h : Keep None w w') {p : MemPlace} (hp : p.block < w.heap.size) : w.sameAt w' p := by
  cases p with
  | cell b o =>
    show w'.cell? _ = w.cell? _
    have := h.block b hp (fun x => x)
    simp only [World.cell?, this]
  | map b => exact h.block b hp (fun x => x)
/-- types of the parameters -/
def ParsOK (P : Program) : List TypeId → Tys → Prop
  | [], .nil => True
  | t :: l, .cons T Ts => TyOK P t T ∧ ParsOK P l Ts
  | _, _ => False
def chkPars (P : Program) : List TypeId → Tys → Bool
  | [], .nil => true
  | t :: l, .cons T Ts => chkTy P t T && chkPars P l Ts
  | _, _ => false
theorem chkPars_ok : ∀ (l : List TypeId) (T : Tys), chkPars P l T = true → ParsOK P l T
  | [], .nil, _ => trivial
  | t :: l, .cons T Ts, h => by
    simp only [chkPars, Bool.and_eq_true] at h
    exact ⟨chkTy_ok _ _ h.1, chkPars_ok l Ts h.2⟩
  | [], .cons _ _, h => by cases h
  | _ :: _, .nil, h => by cases h
theorem okWide_agg {T : Ty} {t : TypeId} {w : World} {b : Nat} {v : Value} (hT : TyOK P t T) (h : Value.okWide P w .any b t v) : aggV v = T.isAgg := by
  cases T with
  | int k => simp only [TyOK] at hT; obtain ⟨n, rfl⟩ := okWide_int hT.2 h; rfl
  | bool => simp only [TyOK] at hT; obtain ⟨n, rfl⟩ := okWide_bool hT.2 h; rfl
  | str => simp only [TyOK] at hT; obtain ⟨n, rfl⟩ := okWide_string hT.2 h; rfl
  | slice T => simp only [TyOK] at hT; obtain ⟨e, he, _⟩ := hT.2; obtain ⟨a, l, c, rfl⟩ := okWide_slice he h; rfl
  | struct fs => simp only [TyOK] at hT; obtain ⟨e, he, _⟩ := hT.2; obtain ⟨a, rfl, _⟩ := okWide_struct he h; rfl
/-- THE ARGUMENTS ARE DATA. -/
theorem args_data {w : World} {b : Nat} {ob : Nat → OB} {μ : Nat → Value} {spare : Nat → Bool} : ∀ (ts : List TypeId) (T : Tys) (vs : List Value) (ds : List (DataW H)) (ps : List MemPlace), ParsOK P ts T → DataW.TrodAll enc P w 0 spare true ts vs ds ps →
    (∀ (j : Nat) t v, ts[j]? = some t → vs[j]? = some v → Value.okWide P w .any b t v) →
    ∃ x : T.den, TRs w (fun _ => False) ob μ (explodes T x) vs ∧ bulks T x ≤ dBulkAll ds ∧ Rngs T x
  | [], .nil, vs, ds, ps, hT, h, hv => by
    obtain ⟨rfl, rfl, rfl⟩ := trodAll_nil h
    exact ⟨(), by simp only [explodes, TRs], by simp [bulks], by simp only [Rngs]⟩
  | t :: ts, .cons T Ts, vs, ds, ps, hT, h, hv => by
    obtain ⟨v, vs1, d, ds1, a, c, rfl, rfl, rfl, ⟨fuel, h1⟩, h2⟩ := trodAll_cons h
    simp only [ParsOK] at hT
    obtain ⟨x, g1, g2, g3⟩ := trod_data T t fuel _ d a hT.1 h1
    obtain ⟨y, k1, k2, k3⟩ := args_data ts Ts vs1 ds1 c hT.2 h2 (fun j t v ht hv' => hv (j + 1) t v (by simpa using ht) (by simpa using hv'))
    refine ⟨(x, y), ?_, ?_, ?_⟩
    · simp only [explodes, TRs]
      refine ⟨v, vs1, rfl, .inr ⟨explode_sound _ _ _ g1, ?_⟩, k1⟩
      rw [explode_agg]
      exact okWide_agg hT.1 (hv 0 t v rfl rfl)
    · simp only [bulks, dBulkAll]; omega
    · simp only [Rngs]; exact ⟨g3, k3⟩
  | [], .cons _ _, vs, ds, ps, hT, h, hv => by simp only [ParsOK] at hT
  | _ :: _, .nil, vs, ds, ps, hT, h, hv => by simp only [ParsOK] at hT
theorem all_stays {T0 : TypeId → Prop} {w w' : World} (K : Kids P T0) (hsz : ∀ {t e : TypeId}, T0 t → P.underlying t = some (.slice e) → 0 < P.cellsOf e) (hk : Keep None w w') (sp : Nat → Bool) :
    ∀ (ts : List TypeId) (vs : List Value) (ds : List (DataW H)) (ps : List MemPlace), (∀ t ∈ ts, T0 t) → DataW.TrodAll enc P w 0 (fun _ => true) true ts vs ds ps → (∀ p ∈ ps, p.block < w.heap.size) → (∀ p ∈ ps, sp p.block = true) →
      DataW.TrodAll enc P w' 0 sp true ts vs ds ps
  | [], vs, ds, ps, _, h, _, _ => by
    obtain ⟨rfl, rfl, rfl⟩ := trodAll_nil h
    rfl
  | t :: ts, vs, ds, ps, ht, h, hlt, hsp => by
    obtain ⟨v, vs1, d, ds1, a, c, rfl, rfl, rfl, ⟨fuel, h1⟩, h2⟩ := trodAll_cons h
    refine ⟨a, c, ⟨fuel, DataW.trod_stays K hsz (fun h => by cases h) (ht t (by simp)) h1 (fun p hp => hk.sameAt (hlt p (by simp [hp]))) (fun p hp => hsp p (by simp [hp]))⟩,
      all_stays K hsz hk sp ts vs1 ds1 c (fun t h => ht t (by simp [h])) h2 (fun p hp => hlt p (by simp [hp])) (fun p hp => hsp p (by simp [hp])), rfl⟩
/-- types of plain data: what a reading goes on to is such, too -/
def PlainT (P : Program) (t : TypeId) : Prop := ∃ T, TyOK P t T
theorem TysOK.cells_sum : ∀ {T : Tys} {l : List Field} {off : Nat}, TysOK P l off T → (l.map fun f => P.cellsOf f.type).sum = T.cells ∧ (∀ f ∈ l, PlainT P f.type) ∧ ∀ (j : Nat) (f : Field), l[j]? = some f → f.offset = off + ((l.take j).map fun f => P.cellsOf f.type).sum
  | .nil, [], off, h => ⟨rfl, fun f hf => (by cases hf), fun j f hf => by simp at hf⟩
  | .nil, _ :: _, off, h => by simp only [TysOK] at h
  | .cons t ts, [], off, h => by simp only [TysOK] at h
  | .cons t ts, f :: l, off, h => by
    simp only [TysOK] at h
    obtain ⟨h1, h2, h3, h4⟩ := h
    obtain ⟨k1, k2, k3⟩ := h4.cells_sum
    have hc := h3.cellsOf
    refine ⟨by simp only [List.map_cons, List.sum_cons, Tys.cells, k1, hc], fun g hg => ?_, fun j g hg => ?_⟩
    · rcases List.mem_cons.1 hg with rfl | hg
      · exact ⟨t, h3⟩
      · exact k2 g hg
    · cases j with
      | zero => simp at hg; subst hg; simp [h1]
      | succ j =>
        simp only [List.getElem?_cons_succ] at hg
        rw [k3 j g hg]
        simp only [List.take_succ_cons, List.map_cons, List.sum_cons, hc]
        omega
theorem plain_kids : Kids P (PlainT P) := by
  refine ⟨fun ht hu => ?_, fun ht hu => ?_, fun ht hu => ?_, fun ht hu => ?_, fun ht hu => ?_⟩
  · obtain ⟨T, h⟩ := ht; cases T <;> simp only [TyOK] at h <;> (first | (rw [h.2] at hu; cases hu) | (obtain ⟨_, e, he, _⟩ := h; rw [he] at hu; cases hu))
  · obtain ⟨T, h⟩ := ht; cases T <;> simp only [TyOK] at h <;> (first | (rw [h.2] at hu; cases hu) | (obtain ⟨_, e, he, h⟩ := h; rw [he] at hu; cases hu; exact ⟨_, h.1⟩) | (obtain ⟨_, e, he, _⟩ := h; rw [he] at hu; cases hu))
  · obtain ⟨T, h⟩ := ht; cases T <;> simp only [TyOK] at h <;> (first | (rw [h.2] at hu; cases hu) | (obtain ⟨_, e, he, _⟩ := h; rw [he] at hu; cases hu))
  · obtain ⟨T, h⟩ := ht
    have hcl := h.cellsOf
    cases T <;> simp only [TyOK] at h
    · rw [h.2] at hu; cases hu
    · rw [h.2] at hu; cases hu
    · rw [h.2] at hu; cases hu
    · obtain ⟨_, e, he, _⟩ := h; rw [he] at hu; cases hu
    · obtain ⟨_, fs, he, h⟩ := h
      rw [he] at hu
      cases hu
      obtain ⟨k1, k2, k3⟩ := h.cells_sum
      exact ⟨k2, by rw [hcl, k1]; rfl, fun j f hf => by rw [k3 j f hf, Nat.zero_add]⟩
  · obtain ⟨T, h⟩ := ht; cases T <;> simp only [TyOK] at h <;> (first | (rw [h.2] at hu; cases hu) | (obtain ⟨_, e, he, _⟩ := h; rw [he] at hu; cases hu))
theorem plain_sz {t e : TypeId} (ht : PlainT P t) (hu : P.underlying t = some (.slice e)) : 0 < P.cellsOf e := by
  obtain ⟨T, h⟩ := ht
  cases T <;> simp only [TyOK] at h
  · rw [h.2] at hu; cases hu
  · rw [h.2] at hu; cases hu
  · rw [h.2] at hu; cases hu
  · obtain ⟨_, e', he, h⟩ := h
    rw [he] at hu
    cases hu
    rw [h.1.cellsOf]
    exact h.2
  · obtain ⟨_, e, he, _⟩ := h; rw [he] at hu; cases hu
theorem ParsOK.plain : ∀ {l : List TypeId} {T : Tys}, ParsOK P l T → ∀ t ∈ l, PlainT P t
  | [], .nil, _, t, h => by cases h
  | u :: l, .cons T Ts, h, t, ht => by
    simp only [ParsOK] at h
    rcases List.mem_cons.1 ht with rfl | ht
    · exact ⟨T, h.1⟩
    · exact h.2.plain t ht
theorem VR.bool' {w : World} {A : Nat → Prop} {ob : Nat → OB} {μ : Nat → Value} {b : Bool} {v : Value} (h : VR w A ob μ (.bool b) v) : v = .bool b := by
  rcases h with h | ⟨h, h2⟩
  · cases h
  · simp only [CR] at h
    cases v <;> simp_all [aggV, PV.isAgg, Value.cells]
/-- THE CONTRACT OF A LAW: A FUNCTION FROM DATA TO true. -/
theorem law_contract {f : FuncId} {F : Func} {s : ChangeSpec} {T : Tys} {g : T.den → Option (Tys.cons .bool .nil).den} {B : Nat} {tb : TypeId} {ts : List TypeId}
    (hS : SoundF P f (FSem.pfn T (.cons .bool .nil) g)) (hts : F.params.toList = ts) (hT : chkPars P ts T = true)
    (hr : F.resultTypes = #[tb]) (hb : P.underlying tb = some .bool) (hv : s.vars = [])
    (hg : ∀ x, bulks T x ≤ B → Rngs T x → g x = some (true, ()))
    (apart fresh handsOn again : Bool) (W : World) (base : Nat) (args : Array Value) (ds gs : List (DataW H)) (before : List MemPlace)
    (hfn : ∀ ds : List (DataW H), ds.length = ts.length → s.fn H ds = { results := [.lit (.bool true)], args := ds })
    (hval : ∀ (j : Nat) t v, F.params[j]? = some t → args[j]? = some v → Value.okWide P W .any base t v)
    (hW : DataW.Whole enc P F.params.toList s.vars apart W args.toList ds gs before)
    (hk : dBulkAll ds ≤ B) :
    Calls P f args W fun e W' => ∃ v, e = .returned v ∧ s.post enc P F apart fresh handsOn again W args v W' := by
  have hW' := hW
  obtain ⟨p, q, hA, hV, rfl, hfz, hnd⟩ := hW
  rw [hv] at hV
  obtain ⟨rfl, rfl⟩ := trodVars_none hV
  rw [hts] at hA
  obtain ⟨x, hx1, hx2, hx3⟩ := args_data (b := base) (ob := obs []) (μ := fun _ => undef) ts T args.toList ds p (chkPars_ok ts T hT) hA (fun j t v ht hv => hval j t v (by rw [← Array.getElem?_toList, hts]; exact ht) (by simpa using hv))
  have hgx := hg x (Nat.le_trans hx2 hk) hx3
  have hlen : ds.length = ts.length := by
    have : ∀ (ts : List TypeId) (vs : List Value) (ds : List (DataW H)) (ps : List MemPlace), DataW.TrodAll enc P W 0 (fun _ => true) true ts vs ds ps → ds.length = ts.length := by
      intro ts
      induction ts with
      | nil => intro vs ds ps h; obtain ⟨_, rfl, _⟩ := trodAll_nil h; rfl
      | cons t ts ih => intro vs ds ps h; obtain ⟨v, vs1, d, ds1, a, c, rfl, rfl, rfl, _, h2⟩ := trodAll_cons h; simp [ih _ _ _ h2]
    exact this _ _ _ _ hA
  have hd : ∀ i, obs [] i = .dead := fun i => rfl
  have hold : ∀ b, own (obs []) (fun _ => undef) b → False := fun b hb => by obtain ⟨i, h, _⟩ := hb; rw [hd] at h; cases h
  have hO : Objs W (fun _ => False) (obs []) (fun _ => undef) := ⟨fun o => by unfold OR; rw [hd]; trivial, fun o _ _ h => (by rw [hd] at h; cases h), fun b hb => hold b hb, fun b hb => hb.elim⟩
  obtain ⟨_, hc⟩ := hS (explodes T x) [] (fun v l => match v with | .bool b => some b | _ => none) true (by
    simp only [FSem.pfn, implodes_explodes, hgx, Option.bind_some, resPV, explode]; rfl)
  have hc := hc W (fun _ => False) (fun _ => undef) args.toList hO hx1
  rw [show args.toList.toArray = args from by simp] at hc
  refine hc.mono ?_
  rintro e w' ⟨v, res, objs', μ', rfl, hK, hpost⟩
  refine ⟨v, rfl, ?_⟩
  have hres : v = .bool true := by
    have h1 := hpost.res
    split at hK
    · cases hK
      exact h1.bool'
    · cases hK
  subst hres
  have hkeep : Keep None W w' := hpost.keep.mono (fun b _ hb => (hold b hb).elim)
  have hall := (chkPars_ok ts T hT).plain
  have hlt : ∀ p' ∈ p, p'.block < W.heap.size := fun p' hp => hW'.lt p' (by simpa using hp)
  have hfn' := hfn (ds ++ []) (by simpa using hlen)
  refine post_of_same (pa := p) (pv := []) hW' (fun _ _ _ => ?_) (fun sp hsp => ?_) (fun sp _ => ?_) rfl (hkeep.keptBut _) hkeep.froz ?_
  · rw [hfn', hr]
    exact trodAll_cons_mk (shut_bool hb _) trodAll_mk0
  · rw [hfn', hts]
    simp only [List.append_nil]
    exact all_stays plain_kids (fun hl h => plain_sz hl h) hkeep sp ts args.toList ds p hall hA hlt (fun p' hp => hsp p' (by simpa using hp))
  · rw [hfn', hv]
    rfl
  · exact ok_one hr rfl (okWide_bool_mk hb _)
end
end Go.Vm
