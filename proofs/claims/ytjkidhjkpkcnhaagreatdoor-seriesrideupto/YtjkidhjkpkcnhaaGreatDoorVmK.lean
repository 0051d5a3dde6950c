/- Vm, part 33: functions that write a row, that use one up and make another, or that make one. Own work. -/
import Derived.Test.YtjkidhjkpkcnhaaGreatDoorVmD
import Derived.Sort.Grow
import Derived.Test.YtjkidhjkpkcnhaaGreatDoorVmA
import Derived.Test.YtjkidhjkpkcnhaaGreatDoorVmC
set_option linter.unusedVariables false
set_option linter.unusedSimpArgs false
set_option linter.unusedSectionVars false
namespace Go.Vm
variable [MonotC]
open Go.RowKit
section
variable {P : Program} {w w' : World} {A A' : Nat → Prop}
theorem RowAt.len {T : Ty} {xs : List T.den} {v : Value} (h : RowAt w A T xs v) : xs.length ≤ 9223372036854775807 := by
  rcases h.cases with ⟨rfl, _⟩ | ⟨_, b, off, c, _, cs, t, _, h2, h3, _⟩
  · simp
  · omega
/-- the row that a function has been handed -/
theorem row_arg {T : Ty} {xs : List T.den} {μ : Nat → Value} (hO : Objs w A (obs [.row T xs]) μ) {x : Value} (hv : VR w A (obs [.row T xs]) μ (.row 0) x) :
    RowAt w A T xs x ∧ HeadR (μ 0) x ∧ ((¬ ∃ a, x = .slice a 0 0) → μ 0 = x) := by
  have hob : obs [.row T xs] 0 = .row T xs := rfl
  have hm := hv.row hob
  exact ⟨((hO.each 0).rowAt hob).head hm, hm, fun h => hm.elim id (fun ⟨_, e⟩ => absurd e h)⟩
theorem one_own {b : OB} {μ : Nat → Value} {x : Nat} (h : own (obs [b]) μ x) : blkOf (μ 0) = some x := by
  obtain ⟨i, h1, h2⟩ := h
  cases i with
  | zero => exact h2
  | succ i => simp [obs, OB.alive] at h1
/-- what is right of a row that is written -/
theorem wfn_post {T : Ty} {xs ys : List T.den} {μ : Nat → Value} (hO : Objs w A (obs [.row T xs]) μ) {x : Value} (hv : VR w A (obs [.row T xs]) μ (.row 0) x) {M : Nat → Prop} (hk : Keep M w w') (hM : ∀ b, M b → (¬ ∃ a, x = .slice a 0 0) ∧ blkOf x = some b)
    (hr : RowAt w' A T ys x) : CallPost w w' A [.row T xs] μ [.row T ys] μ (.tup []) (.tuple #[]) := by
  obtain ⟨h1, h2, h3⟩ := row_arg hO hv
  have hob : obs [.row T ys] 0 = .row T ys := rfl
  have hown : ∀ b, own (obs [.row T ys]) μ b → own (obs [.row T xs]) μ b := fun b hb => ⟨0, rfl, one_own hb⟩
  have hsub : ∀ b, (A b ∨ own (obs [.row T ys]) μ b) → A b := fun b hb => hb.elim id (fun h => hO.mine b (hown b h))
  have hMo : ∀ b, M b → own (obs [.row T xs]) μ b := fun b hb => by
    obtain ⟨g1, g2⟩ := hM b hb
    exact ⟨0, rfl, by rw [h3 g1]; exact g2⟩
  refine ⟨Nat.le_refl _, hk.mono (fun b _ hb => hMo b hb), ⟨fun o => ?_, fun o o' b h1 h2 h3 h4 => ?_, fun b hb => .inr hb, fun b hb => Nat.lt_of_lt_of_le (hO.old b (hsub b hb)) hk.size, lay_keep hO.lay hk (fun b _ hb => hsub b hb) (fun b hb => hO.mine b (hMo b hb))⟩, ?_, fun b hb => .inl (hown b hb), fun i hi => ?_⟩
  · cases o with
    | zero =>
      rcases hr.cases with ⟨rfl, hz⟩ | ⟨hz, b, off, c, e, hreal⟩
      · rcases h2 with h2 | h2
        · have h4 := hO.each 0
          unfold OR at h4 ⊢
          simp only [obs, List.getD_cons_zero] at h4 ⊢
          obtain ⟨a, hz⟩ := hz
          rcases hr with ⟨_, _⟩ | ⟨b, off, c, cs, t, e, g⟩
          · rcases h4 with ⟨_, h4⟩ | ⟨b, off, c, cs, t, e, g1, g2, g3, g4, g5⟩
            · exact .inl ⟨rfl, h4⟩
            · have hb : b < w.heap.size := hO.old b (hO.mine b ⟨0, rfl, by rw [e]; rfl⟩)
              have hMb : ¬ M b := fun h => (hM b h).1 ⟨a, hz⟩
              rw [h2, hz] at e
              simp only [Value.slice.injEq] at e
              obtain ⟨e1, e2, rfl⟩ := e
              exact .inr ⟨b, off, 0, cs, t, by rw [h2, hz, e1]; rfl, by rw [hk.block b hb hMb]; exact g1, by simp, by omega, by omega, fun i x hi => by simp [nth] at hi⟩
          · exact .inr ⟨b, off, c, cs, t, by rw [h2]; exact e, g.1, g.2.1, g.2.2.1, g.2.2.2.1, fun i x hi => by simp [nth] at hi⟩
        · unfold OR
          simp only [obs, List.getD_cons_zero]
          exact .inl ⟨rfl, h2.1⟩
      · exact (hreal.mono hsub).or hob (by rw [h3 hz]; exact e)
    | succ o => unfold OR; simp [obs]
  · cases o with
    | zero =>
      cases o' with
      | zero => rfl
      | succ o' => simp [obs, OB.alive] at h2
    | succ o => simp [obs, OB.alive] at h1
  · refine .of_one ?_ rfl rfl
    simp only [CR, TRs]
    exact ⟨_, rfl, rfl⟩
  · have hi0 : i = 0 := by simpa using hi
    subst hi0
    unfold Later
    simp only [obs, List.getD_cons_zero]
    exact ⟨⟨xs, rfl⟩, trivial⟩
variable {E : Nat → Env}
end
/-- functions in which a slice of a row is seen -/
def mkEnvV (ts : List (Nat × TD)) (fs : List (Nat × FSem)) : Env := { mkEnv ts fs with view := true }
theorem mkEnvV_ok {P : Program} {ts : List (Nat × TD)} {fs : List (Nat × FSem)} (h1 : chkTypes P ts = true) (h2 : ∀ p ∈ fs, SoundF P p.1 p.2) : EnvOK P (mkEnvV ts fs) := mkEnv_ok h1 h2
/-- slices that are written down are data -/
def mkEnvL (ts : List (Nat × TD)) (fs : List (Nat × FSem)) : Env := { mkEnv ts fs with lit := true }
theorem mkEnvL_ok {P : Program} {ts : List (Nat × TD)} {fs : List (Nat × FSem)} (h1 : chkTypes P ts = true) (h2 : ∀ p ∈ fs, SoundF P p.1 p.2) : EnvOK P (mkEnvL ts fs) := mkEnv_ok h1 h2
end Go.Vm

/- Vm, part 34: sorts of the library, by the contracts of the kit. Own work. -/
set_option linter.unusedVariables false
set_option linter.unusedSimpArgs false
set_option linter.unusedSectionVars false
namespace Go.Vm
variable [MonotC]
open Go.RowKit Go.Sort
section
variable {P : Program} {w : World} {A : Nat → Prop}
theorem put_at {α : Type} [Inhabited α] {enc : α → Value} {b off : Nat} {d : Array α} {n : Nat} {os : Array Obj} {x : Nat} (hx : x < w.heap.size) : (grow (putRow enc (Sort.ahead w n) b off d) os).heap[x]? = if x = b then (w.heap[b]?).map (onCells (putCells enc off d)) else w.heap[x]? := by
  simp only [grow, putRow, mapBlock, Sort.ahead]
  rw [Array.getElem?_append_left (by simpa using hx), Array.getElem?_modify]
  by_cases e : b = x
  · subst e; simp
  · rw [if_neg e, if_neg (fun h => e h.symm)]
theorem keep_put {α : Type} [Inhabited α] {enc : α → Value} {b off : Nat} {d : Array α} {n : Nat} {os : Array Obj} : Keep (· = b) w (grow (putRow enc (Sort.ahead w n) b off d) os) := by
  refine ⟨rfl, rfl, rfl, by simp [grow, putRow, mapBlock, Sort.ahead], fun _ => by simp [grow, putRow, mapBlock, Sort.ahead], fun a ha => ?_, fun x hx hn => ?_, fun x cs t z hx => ?_⟩
  rotate_left 2
  · rw [put_at (heap_lt hx)]
    by_cases e : x = b
    · subst e
      rw [if_pos rfl, hx]
      exact ⟨_, rfl⟩
    · rw [if_neg e]; exact ⟨cs, hx⟩
  · unfold World.frozen?
    rw [put_at ha]
    by_cases e : a.block = b
    · rw [if_pos e, ← e]
      cases w.heap[a.block]? with
      | none => rfl
      | some o => cases o <;> rfl
    · rw [if_neg e]
  · rw [put_at hx, if_neg hn]
theorem real_blk {T : Ty} {xs : List T.den} {b off c : Nat} (h : RealRow w A T xs b off c) : b < w.heap.size := by
  obtain ⟨cs, t, h1, _⟩ := h
  rcases Nat.lt_or_ge b w.heap.size with g | g
  · exact g
  · rw [Array.getElem?_eq_none g] at h1; cases h1
end
end Go.Vm

/- Vm, part 35: slices.Compact, for whatever elements. Own work. -/
set_option linter.unusedVariables false
set_option linter.unusedSimpArgs false
namespace Go.Vm
section
variable {σ τ : Type}
/-- A LOOP ALONG A PATH. -/
theorem iter_path {f : σ → Option (σ ⊕ τ)} {s0 : σ} {k : Nat} (st : Nat → σ) (t : τ) (n : Nat) (hs : s0 = st 0) (hk : n < k) (h1 : ∀ j, j < n → f (st j) = some (.inl (st (j + 1)))) (h2 : f (st n) = some (.inr t)) : iter k f s0 = some t := by
  have go : ∀ (k m : Nat), m ≤ n → n - m < k → iter k f (st m) = some t := by
    intro k
    induction k with
    | zero => intro m _ h; omega
    | succ k ih =>
      intro m hm h
      rcases Nat.lt_or_ge m n with hlt | hge
      · simp only [iter, h1 m hlt, Option.bind_some]
        exact ih (m + 1) (by omega) (by omega)
      · have : m = n := by omega
        subst this
        simp only [iter, h2, Option.bind_some]
  subst hs
  exact go k 0 (by omega) (by omega)
end
section
variable {α : Type}
variable (d : α) (eq ne : α → α → Bool)
variable {d eq ne}
/-! ### what slices.DeleteFunc does -/
structure FInv (keep : α → Bool) (xs : List α) (m : Nat) (i : Nat) (row : List α) : Prop where
  len : row.length = xs.length
  low : i < m
  head : row.take i = (xs.take m).filter keep
  tail : row.drop m = xs.drop m
theorem FInv.step {keep : α → Bool} {xs row : List α} {m i : Nat} (h : FInv keep xs m i row) {x : α} (hx : xs[m]? = some x) :
    (keep x = false → FInv keep xs (m + 1) i row) ∧ (keep x = true → FInv keep xs (m + 1) (i + 1) (row.set i x)) := by
  have hml := (List.getElem?_eq_some_iff.1 hx).1
  have hlow := h.low
  have e : xs.take (m + 1) = xs.take m ++ [x] := by rw [List.take_add_one, hx]; rfl
  have htail : row.drop (m + 1) = xs.drop (m + 1) := by
    have := congrArg (List.drop 1) h.tail
    rwa [List.drop_drop, List.drop_drop] at this
  refine ⟨fun hk => ⟨h.len, by omega, by rw [e, List.filter_append, h.head]; simp [hk], htail⟩, fun hk => ?_⟩
  have hil : i < row.length := by rw [h.len]; omega
  refine ⟨by rw [List.length_set]; exact h.len, by omega, ?_, by rw [List.drop_set_of_lt (by omega)]; exact htail⟩
  rw [e, List.filter_append, ← h.head, List.take_set, List.take_add_one, List.getElem?_eq_getElem hil, Option.toList_some]
  rw [List.set_append_right _ _ (by rw [List.length_take]; omega)]
  rw [List.length_take, Nat.min_eq_left (by omega), Nat.sub_self]
  simp [hk]
theorem FInv.at {keep : α → Bool} {xs row : List α} {m i : Nat} (h : FInv keep xs m i row) {q : Nat} (hq : m ≤ q) : row[q]? = xs[q]? := by
  have h1 := congrArg (fun l => l[q - m]?) h.tail
  simp only [List.getElem?_drop] at h1
  rwa [show m + (q - m) = q from by omega] at h1
theorem filter_path {keep : α → Bool} {xs : List α} {i0 : Nat} {x0 : α} (h0 : xs[i0]? = some x0) (hk0 : keep x0 = false) (hb : ∀ m x, m < i0 → xs[m]? = some x → keep x = true) :
    ∃ st : Nat → Nat × List α, st 0 = (i0, xs) ∧ (∀ j, i0 + 1 + j ≤ xs.length → FInv keep xs (i0 + 1 + j) (st j).1 (st j).2) ∧
      ∀ j x, xs[i0 + 1 + j]? = some x → st (j + 1) = bif keep x then ((st j).1 + 1, (st j).2.set (st j).1 x) else st j := by
  have hlt := (List.getElem?_eq_some_iff.1 h0).1
  let st : Nat → Nat × List α := fun n => Nat.rec (i0, xs) (fun j b => match xs[i0 + 1 + j]? with | some x => bif keep x then (b.1 + 1, b.2.set b.1 x) else b | none => b) n
  have hst : ∀ j x, xs[i0 + 1 + j]? = some x → st (j + 1) = bif keep x then ((st j).1 + 1, (st j).2.set (st j).1 x) else st j := fun j x hx => by
    show (match xs[i0 + 1 + j]? with | some x => bif keep x then ((st j).1 + 1, (st j).2.set (st j).1 x) else st j | none => st j) = _
    rw [hx]
  refine ⟨st, rfl, fun j => ?_, hst⟩
  induction j with
  | zero =>
    intro _
    refine ⟨rfl, by show i0 < i0 + 1 + 0; omega, ?_, rfl⟩
    have e : xs.take (i0 + 1) = xs.take i0 ++ [x0] := by rw [List.take_add_one, h0]; rfl
    have hall : (xs.take i0).filter keep = xs.take i0 := List.filter_eq_self.2 fun x hx => by
      obtain ⟨m, hm, e2⟩ := List.mem_iff_getElem.1 hx
      rw [List.length_take] at hm
      exact hb m x (by omega) (by rw [← e2, List.getElem_take, List.getElem?_eq_getElem (by omega)])
    show xs.take i0 = (xs.take (i0 + 1)).filter keep
    rw [e, List.filter_append, hall]
    simp [hk0]
  | succ j ih =>
    intro hj
    have hx : xs[i0 + 1 + j]? = some (xs[i0 + 1 + j]'(by omega)) := List.getElem?_eq_getElem (by omega)
    have h1 := (ih (by omega)).step hx
    rw [hst j _ hx]
    cases hk : keep (xs[i0 + 1 + j]'(by omega))
    · exact h1.1 hk
    · exact h1.2 hk
end
end Go.Vm

/- Vm, part 35: the cells of plain data. Own work. -/
set_option linter.unusedVariables false
set_option linter.unusedSimpArgs false
namespace Go.Vm
open Go.RowKit
mutual
/-- the cells of a value that leads nowhere -/
def encT : (T : Ty) → T.den → List Value
  | .int k, x => [.int k x] | .bool, b => [.bool b] | .str, s => [.string s] | .slice _, _ => [] | .struct fs, x => encTs fs x
def encTs : (T : Tys) → T.den → List Value
  | .nil, _ => [] | .cons t ts, x => encT t x.1 ++ encTs ts x.2
end
section
variable {P : Program} {w w' : World} {A A' : Nat → Prop}
theorem go_cons {t : Ty} {ts : Tys} (h : Ty.deep.go (.cons t ts) = false) : t.deep = false ∧ Ty.deep.go ts = false := by
  cases t with
  | slice t => simp [Ty.deep.go] at h
  | struct fs => simp only [Ty.deep.go, Bool.or_eq_false_iff] at h; exact ⟨by simpa [Ty.deep] using h.1, h.2⟩
  | int k => exact ⟨rfl, by simpa [Ty.deep.go] using h⟩
  | bool => exact ⟨rfl, by simpa [Ty.deep.go] using h⟩
  | str => exact ⟨rfl, by simpa [Ty.deep.go] using h⟩
mutual
theorem DR_enc : ∀ (T : Ty) (x : T.den), T.deep = false → WF T x → DR w A T x (encT T x)
  | .int k, x, _, _ => by simp only [DR, encT]
  | .bool, x, _, _ => by simp only [DR, encT]
  | .str, x, _, h => by simp only [WF] at h; simp only [DR, encT]; exact ⟨trivial, h⟩
  | .slice t, x, h, _ => by simp [Ty.deep] at h
  | .struct fs, x, h, hw => by simp only [WF] at hw; simp only [DR, encT]; exact DRs_enc fs x (by simpa [Ty.deep] using h) hw
theorem DRs_enc : ∀ (T : Tys) (x : T.den), Ty.deep.go T = false → WFs T x → DRs w A T x (encTs T x)
  | .nil, x, _, _ => by simp only [DRs, encTs]
  | .cons t ts, x, h, hw => by
    obtain ⟨h1, h2⟩ := go_cons h
    simp only [WFs] at hw
    simp only [DRs, encTs]
    exact ⟨_, _, rfl, DR_enc t x.1 h1 hw.1, DRs_enc ts x.2 h2 hw.2⟩
end
mutual
theorem enc_DR : ∀ (T : Ty) (x : T.den) (cs : List Value), T.deep = false → DR w A T x cs → cs = encT T x
  | .int k, x, cs, _, h => by simpa only [DR, encT] using h
  | .bool, x, cs, _, h => by simpa only [DR, encT] using h
  | .str, x, cs, _, h => by simp only [DR] at h; simpa only [encT] using h.1
  | .slice t, x, cs, h, _ => by simp [Ty.deep] at h
  | .struct fs, x, cs, h, hd => by simp only [DR] at hd; simp only [encT]; exact encs_DR fs x cs (by simpa [Ty.deep] using h) hd
theorem encs_DR : ∀ (T : Tys) (x : T.den) (cs : List Value), Ty.deep.go T = false → DRs w A T x cs → cs = encTs T x
  | .nil, x, cs, _, h => by simpa only [DRs, encTs] using h
  | .cons t ts, x, cs, h, hd => by
    obtain ⟨h1, h2⟩ := go_cons h
    simp only [DRs] at hd
    obtain ⟨c1, c2, e, h3, h4⟩ := hd
    simp only [encTs]
    rw [e, enc_DR t x.1 c1 h1 h3, encs_DR ts x.2 c2 h2 h4]
end
end
end Go.Vm

/- Vm, part 39: functions that leave the objects as they were. Own work. -/
set_option linter.unusedVariables false
set_option linter.unusedSimpArgs false
set_option linter.unusedSectionVars false
namespace Go.Vm
variable [MonotC]
open Go.RowKit
/-! ### Objects that lie in one way alone -/
section
variable {w w' : World} {A A' : Nat → Prop} {l : List OB} {μ : Nat → Value}
end
/-- of the first n none is told -/
def noTouch (n : Nat) : List Nat → Bool
  | [] => true
  | o :: l => Nat.ble n o && noTouch n l
theorem noTouch_spec {n : Nat} : ∀ {l : List Nat}, noTouch n l = true → ∀ i, i < n → i ∉ l
  | [], _, i, _, h => by cases h
  | o :: l, h, i, hi, hm => by
    simp only [noTouch, Bool.and_eq_true] at h
    rcases List.mem_cons.1 hm with rfl | hm
    · have := Nat.le_of_ble_eq_true h.1; omega
    · exact noTouch_spec h.2 i hi hm
section
variable {P : Program} {E : Env} {c : Cx} {S : St} {μ : Nat → Value} {a : Act} {w : World}
/-- what a function's call does that touches none of the objects -/
theorem calls_evq {ρ : Type} (hE : EnvTy P E) {f : FuncId} {fn : Func} {code : Code} {nt : Nat} {rs : List ResultVar} (hf : P.funcs[f]? = some fn) (hb : fn.body = some code) (hnt : fn.ntmps = nt) (hrs : fn.results.toList = rs) {evx : St → Kt ρ → Option ρ}
    {objs : List OB} (hev : ∀ (c : Cx), (∀ b, c.M0 b → objs ≠ []) → ∀ (S : St) (K : Kt ρ) (r : ρ) (μ : Nat → Value) (a : Act) (w : World) (n : Nat) (Q : Exit → Act → World → Prop), evx S K = some r → SR c S μ a w → n ≤ S.objs.length → Post c K r n (dsts code) S μ Q → code.wp P Q a w)
    {args : List PV} {K : PV → List OB → Option ρ} {r : ρ} (hk : evx { slots := args ++ List.replicate (nt - args.length) .undef, objs := objs, touched := [] } { n := fun S => cond (noTouch objs.length S.touched) (retK E S rs K) none, x := fun _ _ => none, r := fun S => cond (noTouch objs.length S.touched) (retK E S rs K) none } = some r)
    (w : World) (A : Nat → Prop) (μ : Nat → Value) (vals : List Value) (hO : Objs w A (obs objs) μ) (hargs : TRs w A (obs objs) μ args vals) :
    Calls P f vals.toArray w fun e w' => ∃ v res objs' μ', e = .returned v ∧ K res objs' = some r ∧ CallPost w w' A objs μ objs' μ' res v ∧ ∀ i, i < objs.length → obs objs' i = obs objs i := by
  · have hc : ∃ c : Cx, c.w0 = w ∧ c.A0 = A ∧ c.M0 = own (obs objs) μ := ⟨⟨w, A, own (obs objs) μ, hO.old, hO.mine⟩, rfl, rfl, rfl⟩
    obtain ⟨c, hw0, hA0, hM0⟩ := hc
    refine calls_of_wp hf hb ?_
    generalize hS : ({ slots := args ++ List.replicate (nt - args.length) .undef, objs := objs, touched := [] } : St) = S
    have hob : S.ob = obs objs := by subst hS; rfl
    have hSo : S.objs = objs := by subst hS; rfl
    have hav : ∀ b, av c S.ob μ b → A b := fun b hb => by
      rcases hb with hb | hb
      · rw [hA0] at hb; exact hb
      · rw [hob] at hb; exact hO.mine b hb
    have hsz := hargs.len
    have hsr : SR c S μ { tmps := vals.toArray ++ Array.replicate (fn.ntmps - vals.toArray.size) undef, defers := [] } w := by
      refine ⟨rfl, ⟨?_, fun t v ht => ?_⟩, ?_, by rw [hw0]; exact Keep.refl _ w, fun b hb => .inl (by rw [hM0, ← hob]; exact hb)⟩
      · subst hS; simp [hnt, hsz]
      · subst hS
        simp only at ht
        rw [List.getElem?_append] at ht
        split at ht
        · rename_i hlt
          obtain ⟨x, hx, hv⟩ := hargs.each t v ht
          have : (vals.toArray ++ Array.replicate (fn.ntmps - vals.toArray.size) undef).getD t undef = x := by
            rw [Array.getD_eq_getD_getElem?, Array.getElem?_append_left (by simp; omega)]
            simp [hx]
          show VR w _ _ _ v ((vals.toArray ++ Array.replicate (fn.ntmps - vals.toArray.size) undef).getD t undef)
          rw [this]
          exact VR.later (Keep.refl None w) (fun b _ hb => hav b hb) (fun _ h => h.elim) (fun o _ => by rw [hob]; exact Later.refl _ _ o) hv
        · rename_i hge
          rw [List.getElem?_replicate] at ht
          split at ht
          · simp only [Option.some.injEq] at ht
            subst ht
            have : (vals.toArray ++ Array.replicate (fn.ntmps - vals.toArray.size) undef).getD t undef = undef := by
              rw [Array.getD_eq_getD_getElem?, Array.getElem?_append_right (by simp; omega), Array.getElem?_replicate]
              split <;> rfl
            show VR w _ _ _ _ ((vals.toArray ++ Array.replicate (fn.ntmps - vals.toArray.size) undef).getD t undef)
            rw [this]
            exact .mk_undef
          · cases ht
      · rw [hob]
        exact ⟨fun o => (hO.each o).later (Keep.refl None w) (fun b _ hb => hav b (by rw [hob]; exact hb)) (fun _ h => h.elim) (.inl rfl) (fun _ => rfl) (fun b h1 h2 => ⟨fun h => h.elim, hO.old b (hO.mine b ⟨o, h1, h2⟩)⟩) (fun x _ => Later.refl _ _ x), hO.apart, fun b hb => .inr hb, fun b hb => hO.old b (hav b (by rw [hob]; exact hb)), fun p hp => ⟨(hO.lay p hp).1, fun a => (hO.lay p hp).2 (hav _ (by rw [hob]; exact a))⟩⟩
    rw [hS] at hk
    have hfin : ∀ S' μ' a' w', cond (noTouch objs.length S'.touched) (retK E S' rs K) none = some r → SR c S' μ' a' w' → Ag objs.length (dsts code) S μ S' μ' → a'.defers = [] ∧ ∃ v, (results fn a'.tmps).run P w' = .ok v w' ∧
        ∃ v' res objs' μ', Ending.returned v = .returned v' ∧ K res objs' = some r ∧ CallPost w w' A objs μ objs' μ' res v' ∧ ∀ i, i < objs.length → obs objs' i = obs objs i := by
      intro S' μ' a' w' h1 h2 h3
      obtain ⟨hnt, h1⟩ := cond_some h1
      have hsame : ∀ i, i < objs.length → obs S'.objs i = obs objs i := fun i hi => by
        rcases h3.ob i hi with h | h
        · rw [← hob]; exact h
        · exact absurd h (noTouch_spec hnt i hi)
      refine ⟨h2.defers, ?_⟩
      unfold retK at h1
      have hpost : ∀ (res : PV) (v : Value), VR w' (av c S'.ob μ') S'.ob μ' res v → CallPost w w' A objs μ S'.objs μ' res v := fun res v hv => by
        refine ⟨h3.olen, ?_, ?_, ?_, fun b hb => ?_, fun i hi => ?_⟩
        · have := h2.keep; rw [hM0, hw0] at this; exact this
        · have := h2.objs; unfold av at this; rw [hA0] at this; exact this
        · unfold av at hv; rw [hA0] at hv; exact hv
        · have := h2.mine b hb; rw [hM0, hw0] at this; exact this
        · have := h3.later i hi; rw [hob] at this; exact this
      have hres : ∀ vs, retL E S' rs = some vs → ∃ xs : List Value, (fn.results.mapM (retV a'.tmps)).run P w' = .ok xs.toArray w' ∧ TRs w' (av c S'.ob μ') S'.ob μ' vs xs := fun vs hvs => by
        obtain ⟨xs, g1, g2⟩ := retL_sound hE h2 rs vs hvs
        refine ⟨xs, ?_, g2⟩
        rw [Array.mapM_eq_mapM_toList, hrs, Sem.run_map, g1]
        rfl
      rw [results_eq]
      split at h1
      · rename_i v hv
        obtain ⟨xs, g1, g2⟩ := hres _ hv
        simp only [TRs] at g2
        obtain ⟨x, rest, rfl, g3, rfl⟩ := g2
        exact ⟨x, by rw [Sem.run_bind, g1]; rfl, x, v, S'.objs, μ', rfl, h1, hpost v x g3, hsame⟩
      · rename_i vs hne hv
        obtain ⟨xs, g1, g2⟩ := hres _ hv
        have hl := g2.len
        have h1x : xs.length ≠ 1 := fun e => by
          rw [e] at hl
          match vs, hl with
          | [v], _ => exact hne v rfl
        refine ⟨.tuple xs.toArray, by rw [Sem.run_bind, g1]; simp [Result.andThen, h1x], .tuple xs.toArray, .tup vs, S'.objs, μ', rfl, h1, hpost _ _ (.of_one ?_ rfl rfl), hsame⟩
        simp only [CR]
        exact ⟨_, rfl, by simpa using g2⟩
      · cases h1
    exact hev c (fun b hb e => by
        rw [hM0] at hb
        obtain ⟨o, h1, _⟩ := hb
        have := obs_len h1
        rw [e] at this
        exact absurd this (Nat.not_lt_zero _)) S _ r μ _ w objs.length _ hk hsr (by rw [hSo]; exact Nat.le_refl _)
      ⟨fun S' μ' a' w' h1 h2 h3 => hfin S' μ' a' w' h1 h2 h3, fun j S' μ' a' w' h1 => (by cases h1), fun S' μ' a' w' h1 h2 h3 => hfin S' μ' a' w' h1 h2 h3⟩
end
/-! ### A function that leaves the objects as they were -/
/-- .. as the evaluator sees it -/
noncomputable def evFunR0 {ρ : Type} (E : Env) (H : Hints) (k : Nat) (code : Code) (nt : Nat) (rs : List ResultVar) (args : List PV) (objs : List OB) (K : PV → List OB → Option ρ) : Option ρ :=
  ev { E with give := objs.isEmpty } H k code 0 { slots := args ++ List.replicate (nt - args.length) .undef, objs := objs, touched := [] }
    { n := fun S => cond (noTouch objs.length S.touched) (retK E S rs fun v l => K v (objs ++ l.drop objs.length)) none, x := fun _ _ => none, r := fun S => cond (noTouch objs.length S.touched) (retK E S rs fun v l => K v (objs ++ l.drop objs.length)) none }
theorem evFunR0_nat {ρ τ : Type} {E : Env} {H : Hints} {k : Nat} {code : Code} {nt : Nat} {rs : List ResultVar} {args : List PV} {objs : List OB} {K : PV → List OB → Option ρ} {f : ρ → Option τ} :
    (evFunR0 E H k code nt rs args objs K).bind f = evFunR0 E H k code nt rs args objs (fun v l => (K v l).bind f) := by
  unfold evFunR0
  rw [ev_nat]
  congr 1
  refine Kt.ext (fun S => ?_) (fun _ _ => rfl) (fun S => ?_)
  · simp only [Kt.bind]
    rw [cond_bind, retK_nat]; rfl
  · simp only [Kt.bind]
    rw [cond_bind, retK_nat]; rfl
noncomputable def FSem.evr (E : Env) (H : Hints) (k : Nat) (code : Code) (nt : Nat) (rs : List ResultVar) : FSem where
  modes := []
  quiet := false
  run := fun args objs K => evFunR0 E H k code nt rs args objs K
  param := fun args objs K => by
    have := evFunR0_nat (E := E) (H := H) (k := k) (code := code) (nt := nt) (rs := rs) (args := args) (objs := objs) (K := fun v l => some (v, l)) (f := fun p => K p.1 p.2)
    simp only [Option.bind_some] at this
    rw [← this]
    cases evFunR0 E H k code nt rs args objs (fun v l => some (v, l)) <;> rfl
  ro := true
  roOK := fun _ args objs p hp => by
    have hf : ∃ f : PV × List OB → Option (PV × List OB), (∀ v l, f (v, objs ++ l) = some (v, objs ++ l)) ∧ ∀ q q', f q = some q' → ∃ new, q'.2 = objs ++ new := by
      classical
      refine ⟨fun q => if ∃ new, q.2 = objs ++ new then some q else none, fun v l => if_pos ⟨l, rfl⟩, fun q q' h => ?_⟩
      have h : (if ∃ new, q.2 = objs ++ new then some q else none) = some q' := h
      by_cases hq : ∃ new, q.2 = objs ++ new
      · rw [if_pos hq] at h; cases h; exact hq
      · rw [if_neg hq] at h; cases h
    obtain ⟨f, hf1, hf2⟩ := hf
    have h := evFunR0_nat (E := E) (H := H) (k := k) (code := code) (nt := nt) (rs := rs) (args := args) (objs := objs) (K := fun v l => some (v, l)) (f := f)
    have e : evFunR0 E H k code nt rs args objs (fun v l => (some (v, l) : Option (PV × List OB)).bind f) = evFunR0 E H k code nt rs args objs (fun v l => some (v, l)) := by
      unfold evFunR0
      simp only [Option.bind_some, hf1]
    rw [e, hp, Option.bind_some] at h
    exact hf2 p p h
/-- a function that its callers see as the evaluator does, and that leaves the objects as they were -/
theorem ev_inlineR {P : Program} {E : Env} (hE : EnvOK P E) (hm : P.follows .mixedOrders = true) {H : Hints} {k : Nat} {f : FuncId} {fn : Func} {code : Code} {nt : Nat} {rs : List ResultVar} (hf : P.funcs[f]? = some fn) (hname : (fn.name == "runtime.NumGoroutine") = false) (hb : fn.body = some code) (hnt : fn.ntmps = nt) (hrs : fn.results.toList = rs) : SoundF P f (FSem.evr E H k code nt rs) := by
  intro ρ args objs K r h
  refine ⟨enters_of hf hname hb, fun w A μ vals hO hargs => ?_⟩
  refine (calls_evq hE.1 hf hb hnt hrs (evx := fun S K => ev { E with give := objs.isEmpty } H k code 0 S K) (fun c hc S K r μ a w n Q h hs hn hp => ev_sound (hE.giving hc) hm code 0 S K r μ a w n Q h hs hn hp) h w A μ vals hO hargs).mono ?_
  rintro e w' ⟨v, res, objs', μ', rfl, hK, hpost, hsame⟩
  have ho : objs ++ objs'.drop objs.length = objs' := by
    have hl := hpost.olen
    apply List.ext_getElem?
    intro i
    by_cases hi : i < objs.length
    · rw [List.getElem?_append_left hi]
      have h2 := hsame i hi
      simp only [obs, List.getD, List.getElem?_eq_getElem hi, List.getElem?_eq_getElem (show i < objs'.length by omega), Option.getD_some] at h2
      rw [List.getElem?_eq_getElem hi, List.getElem?_eq_getElem (show i < objs'.length by omega), h2]
    · rw [List.getElem?_append_right (by omega), List.getElem?_drop]
      congr 1
      omega
  rw [ho] at hK
  exact ⟨v, res, objs', μ', rfl, hK, hpost⟩
end Go.Vm
