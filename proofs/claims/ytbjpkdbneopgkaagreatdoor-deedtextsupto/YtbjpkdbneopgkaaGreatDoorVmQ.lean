/- Vm, part 36: slices.SortFunc at structs, by the contract of the kit. Own work. -/
import Derived.Test.YtbjpkdbneopgkaaGreatDoorVmK
import Derived.Shelf.SlSortCmp.InsertionK
import Derived.Sort.AssemblyPlain
import Derived.Test.YtbjpkdbneopgkaaGreatDoorVmC
import Derived.Test.YtbjpkdbneopgkaaGreatDoorVmA
import Derived.Lib.Bytealg
set_option linter.unusedVariables false
set_option linter.unusedSimpArgs false
set_option linter.unusedSectionVars false
namespace Go.Vm
variable [MonotC]
open Go.RowKit Go.Sort Go.Shelf Go.Lib
section
variable {P : Program} {w w' : World} {A A' : Nat → Prop}
/-- a world in which nothing that was there has changed -/
theorem keep_grow [MonotOK] (h : Keep None w w') : ∃ q os, w' = grow (w.drewN q) os := by
  refine ⟨w'.drawn - w.drawn, w'.heap.extract w.heap.size w'.heap.size, ?_⟩
  have hh : w'.heap = w.heap ++ w'.heap.extract w.heap.size w'.heap.size := by
    apply Array.ext_getElem?
    intro i
    rw [Array.getElem?_append]
    split
    · rename_i hi; exact h.block i hi (fun x => x)
    · rename_i hi
      have hs := h.size
      simp only [Array.getElem?_extract]
      by_cases h2 : i < w'.heap.size
      · rw [if_pos (by omega), show w.heap.size + (i - w.heap.size) = i from by omega]
      · rw [if_neg (by omega), Array.getElem?_eq_none (by omega)]
  have h1 := h.os; have h2 := h.tape; have h3 := h.output; have h4 := h.drawn MonotOK.ok
  cases w'
  cases w
  simp only [grow, World.drewN] at *
  subst h1 h2 h3
  simp only [World.mk.injEq, true_and, and_true]
  exact ⟨hh, by omega⟩
/-- elements whose sizes are those of a machine, and of which more is known -/
abbrev Els (T : Ty) (Q : T.den → Prop) := { x : T.den // WF T x ∧ Q x }
def encE (T : Ty) (Q : T.den → Prop) (x : Els T Q) : List Value := encT T x.1
theorem encE_len {T : Ty} {Q : T.den → Prop} (hT : T.deep = false) (x : Els T Q) : (encE T Q x).length = T.cells := DR.len (w := default) (A := fun _ => False) _ _ _ (DR_enc T x.1 hT x.2.1)
theorem encE_one {T : Ty} {Q : T.den → Prop} (hT : T.deep = false) (x : Els T Q) : ∀ v ∈ encE T Q x, v.oneCell' = true := DR.plain (w := default) (A := fun _ => False) _ _ _ (DR_enc T x.1 hT x.2.1)
/-- a comparison of structs, as the sort of the kit asks it -/
theorem cmp_calls [MonotOK] {T : Ty} {Q : T.den → Prop} (hT : T.deep = false) (hagg : T.isAgg = true) {g : FuncId} {cmp : T.den → T.den → Int} (hc : SoundF P g (FSem.fn (.cons T (.cons T .nil)) (.cons (.int .i64) .nil) fun x => (cmp x.1 x.2.1, ()))) (x y : Els T Q) (W : World) (hlay : ∀ p ∈ theLay, LaidAt W p) :
    Calls P g (#[.agg (encE T Q x).toArray, .agg (encE T Q y).toArray] ++ #[]) W fun e w' => e = .returned (.int .i64 (cmp x.1 y.1)) ∧ ∃ q os', w' = grow (W.drewN q) os' := by
  have hd : ∀ i, obs [] i = .dead := fun i => rfl
  have hold : ∀ b, own (obs []) (fun _ => undef) b → False := fun b hb => by obtain ⟨i, h, _⟩ := hb; rw [hd] at h; cases h
  have hO : Objs W (fun _ => False) (obs []) (fun _ => undef) := ⟨fun o => by unfold OR; rw [hd]; trivial, fun o _ _ h => (by rw [hd] at h; cases h), fun b hb => hold b hb, fun b hb => hb.elim, fun p hp => ⟨hlay p hp, fun h => h.elim⟩⟩
  have hv : ∀ z : Els T Q, VR W (fun _ => False) (obs []) (fun _ => undef) (explode T z.1) (.agg (encE T Q z).toArray) := fun z => .inr ⟨by
    have : (Value.agg (encE T Q z).toArray).cells.toList = encE T Q z := by simp [Value.cells]
    rw [this]
    exact explode_sound _ _ _ (DR_enc T z.1 hT z.2.1), by rw [explode_agg, hagg]; rfl⟩
  obtain ⟨_, hcalls⟩ := hc (explodes (.cons T (.cons T .nil)) (x.1, y.1, ())) [] (fun v l => match v with | .int .i64 n => some n | _ => none) (cmp x.1 y.1) (by
    exact (fun z : (Tys.cons T (.cons T .nil)).den => (by simp only [FSem.fn]; rw [implodes_explodes]; rfl : (FSem.fn (.cons T (.cons T .nil)) (.cons (.int .i64) .nil) fun x => (cmp x.1 x.2.1, ())).run (explodes (.cons T (.cons T .nil)) z) [] (fun v l => match v with | .int .i64 n => some n | _ => none) = some (cmp z.1 z.2.1))) (x.1, y.1, ()))
  have hcalls := hcalls W (fun _ => False) (fun _ => undef) [.agg (encE T Q x).toArray, .agg (encE T Q y).toArray] hO (by
    simp only [explodes, TRs]
    exact ⟨_, _, rfl, hv x, _, _, rfl, hv y, rfl⟩)
  refine hcalls.mono ?_
  rintro e w' ⟨v, res, objs', μ', rfl, hK, hpost⟩
  refine ⟨?_, keep_grow (hpost.keep.mono (fun b _ hb => (hold b hb).elim))⟩
  have h1 := hpost.res
  split at hK
  · cases hK
    rw [h1.int]
  · cases hK
theorem real_holdsK {T : Ty} {Q : T.den → Prop} [Inhabited (Els T Q)] (hT : T.deep = false) (hpos : 0 < T.cells) {xs : List T.den} {b off c : Nat} (h : RealRow w A T xs b off c) (hw : ∀ x ∈ xs, WF T x ∧ Q x) : HoldsK (encE T Q) T.cells w b off (xs.attachWith _ hw).toArray := by
  obtain ⟨cs, t, h1, h2, h3, h4, h5⟩ := h
  intro j hj
  simp only [size_flatK, List.size_toArray, List.length_attachWith] at hj
  rw [get_flatK _ _ _ _ (by simpa using hj)]
  have hq : j / T.cells < xs.length := Nat.div_lt_of_lt_mul (by rw [Nat.mul_comm]; exact hj)
  have hm : j % T.cells < T.cells := Nat.mod_lt _ hpos
  obtain ⟨cx, g1, g2⟩ := h5 (j / T.cells) _ (List.getElem?_eq_getElem hq)
  have e := enc_DR T _ cx hT g1
  have hat : ((xs.attachWith _ hw).toArray[j / T.cells]!).1 = xs[j / T.cells] := by
    rw [getElem!_pos _ _ (by simpa using hq)]
    simp
  have hcl : (encT T xs[j / T.cells]).length = T.cells := by rw [← e]; exact DR.len _ _ _ g1
  have hget : (encE T Q ((xs.attachWith _ hw).toArray[j / T.cells]!))[j % T.cells]! = (encT T xs[j / T.cells])[j % T.cells]'(by rw [hcl]; exact hm) := by
    unfold encE
    rw [hat, getElem!_pos _ _ (by rw [hcl]; exact hm)]
  rw [hget]
  have hdm : off + j / T.cells * T.cells + j % T.cells = off + j := by
    have := Nat.div_add_mod j T.cells
    rw [Nat.mul_comm] at this
    omega
  have h6 := g2 (j % T.cells) _ (by rw [e]; exact List.getElem?_eq_getElem (by rw [hcl]; exact hm))
  rw [hdm] at h6
  refine ⟨?_, by simp [World.frozen?, h1]⟩
  simp only [World.cell?, h1]
  simpa using h6
theorem real_putK {T : Ty} {Q : T.den → Prop} [Inhabited (Els T Q)] (hT : T.deep = false) (hpos : 0 < T.cells) {xs : List T.den} {b off c : Nat} (h : RealRow w A T xs b off c) {zs : List (Els T Q)} (hz : zs.length = xs.length) (hA : A b) (n : Nat) (os : Array Obj) :
    RealRow (grow (putRow id (Sort.ahead w n) b off (flatK (encE T Q) T.cells zs.toArray)) os) A T (zs.map (·.1)) b off c := by
  have hb := real_blk h
  obtain ⟨cs, t, h1, h2, h3, h4, h5⟩ := h
  refine ⟨putCells id off (flatK (encE T Q) T.cells zs.toArray) cs, t, by rw [put_at hb, if_pos rfl, h1]; rfl, by rw [List.length_map, hz]; exact h2, h3, by simpa [putCells] using h4, fun i x hx => ?_⟩
  simp only [nth, List.getElem?_map, Option.map_eq_some_iff] at hx
  obtain ⟨a, ha, rfl⟩ := hx
  have hi := (List.getElem?_eq_some_iff.1 ha).1
  refine ⟨encT T a.1, DR_enc T a.1 hT a.2.1, fun j v hj => ?_⟩
  have hjl := (List.getElem?_eq_some_iff.1 hj).1
  have hcl := encE_len hT a
  unfold encE at hcl
  rw [hcl] at hjl
  have hm : (i + 1) * T.cells ≤ zs.length * T.cells := Nat.mul_le_mul_right _ hi
  have hc2 : zs.length * T.cells ≤ c * T.cells := Nat.mul_le_mul_right _ (by rw [hz]; exact h2)
  rw [Nat.succ_mul] at hm
  have hc : off + i * T.cells + j < cs.size := by omega
  simp only [putCells, Array.getElem?_mapIdx, Array.getElem?_eq_getElem hc, Option.map_some, id]
  rw [if_pos (by simp only [size_flatK, List.size_toArray]; omega), show off + i * T.cells + j - off = i * T.cells + j from by omega, get_flatK _ _ _ _ (by simp only [List.size_toArray]; omega)]
  have e1 : (i * T.cells + j) / T.cells = i := by
    rw [Nat.mul_comm, Nat.mul_add_div hpos, Nat.div_eq_of_lt hjl, Nat.add_zero]
  have e2 : (i * T.cells + j) % T.cells = j := by
    rw [Nat.mul_comm, Nat.mul_add_mod, Nat.mod_eq_of_lt hjl]
  rw [e1, e2]
  have hza : zs.toArray[i]! = a := by
    rw [getElem!_pos zs.toArray i (by simpa using hi)]
    obtain ⟨_, e⟩ := List.getElem?_eq_some_iff.1 ha
    simpa using e
  rw [hza]
  unfold encE
  rw [getElem!_pos _ _ (by rw [hcl]; exact hjl)]
  obtain ⟨_, e⟩ := List.getElem?_eq_some_iff.1 hj
  rw [e]
/-- A FUNCTION THAT IS HANDED A ROW TO WRITE AND A FUNCTION, with a contract of its own. -/
theorem rfn_leaf {f : FuncId} {T : Ty} {g : Nat} {F : List T.den → Option (List T.den)} (hen : Enters P f)
    (h0 : ∀ ys, F [] = some ys → ys = [] ∧ ∀ (w : World) (p : Option Addr), Calls P f #[.slice p 0 0, .func (.func g) #[] #[]] w fun e w' => e = .returned (.tuple #[]) ∧ Keep None w w')
    (h1 : ∀ xs ys, xs.length ≤ 9223372036854775807 → F xs = some ys → ∀ (w : World) (A : Nat → Prop) (b off c : Nat), RealRow w A T xs b off c → A b → (∀ p ∈ theLay, LaidAt w p ∧ ¬ A p.1) →
      Calls P f #[.slice (some ⟨b, off, none⟩) xs.length c, .func (.func g) #[] #[]] w fun e w' => e = .returned (.tuple #[]) ∧ Keep (· = b) w w' ∧ ys.length = xs.length ∧ RealRow w' A T ys b off c) : SoundF P f (FSem.rfn T .nil g fun xs _ => F xs) := by
  intro ρ args objs K r h
  simp only [FSem.rfn] at h
  split at h
  · rename_i x hx
    obtain ⟨ys, hy, hK⟩ := Option.bind_eq_some_iff.1 h
    refine ⟨hen, fun w A μ vals hO hargs => ?_⟩
    obtain ⟨xs, a⟩ := x
    unfold rowArg at hx
    split at hx
    · cases hx
    · rename_i v l
      split at hx
      · rename_i o
        split at hx
        · rename_i b
          split at hx
          · rename_i U zs
            obtain ⟨ho, hx⟩ := cond_some hx
            have ho := Nat.eq_of_beq_eq_true ho
            subst ho
            obtain ⟨q, h1', hx⟩ := Option.bind_eq_some_iff.1 hx
            obtain ⟨m, h2, hx⟩ := Option.bind_eq_some_iff.1 hx
            obtain ⟨a', h3, hx⟩ := Option.bind_eq_some_iff.1 hx
            obtain ⟨e1, e2⟩ := castL_some h1'
            subst e1; subst e2
            cases hx
            have hl := splitF_some h2
            subst hl
            have hm : m = [] := by
              cases m with
              | nil => rfl
              | cons v m => simp [implodes] at h3
            subst hm
            simp only [List.nil_append, TRs] at hargs
            obtain ⟨xv, rest, rfl, hv, y, r2, rfl, hg, rfl⟩ := hargs
            have hgv : y = .func (.func g) #[] #[] := by
              rcases hg with hg | ⟨hg, hg2⟩
              · cases hg
              · rw [cells_one (by cases y <;> first | rfl | (simp [aggV, PV.isAgg] at hg2))] at hg
                simp only [CR, TRs] at hg
                obtain ⟨vs, e, hvs⟩ := hg
                have : vs = #[] := by
                  apply Array.ext'
                  simpa using hvs
                simp only [List.cons.injEq, and_true] at e
                rw [e, this]
            subst hgv
            obtain ⟨g1, g2, g3⟩ := row_arg hO hv
            rcases g1.cases with ⟨e, p, rfl⟩ | ⟨hz, b, off, c, e, hreal⟩
            · simp only at hy
              rw [e] at hy
              obtain ⟨rfl, hc⟩ := h0 ys hy
              refine (hc w p).mono ?_
              rintro e1 w' ⟨rfl, hk⟩
              exact ⟨_, _, _, μ, rfl, hK, wfn_post hO hv hk (fun b h => h.elim) (.inl ⟨rfl, p, rfl⟩)⟩
            · subst e
              have hA : A b := hO.mine b ⟨0, rfl, by rw [g3 hz]; rfl⟩
              refine (h1 _ ys g1.len hy w A b off c hreal hA hO.lay).mono ?_
              rintro e1 w' ⟨rfl, hk, hl, cs, t, hr⟩
              exact ⟨_, _, _, μ, rfl, hK, wfn_post hO hv hk (fun b h => ⟨hz, by rw [h]; rfl⟩) (.inr ⟨b, off, c, cs, t, by rw [hl], hr⟩)⟩
          · cases hx
        · cases hx
      · cases hx
  · cases h
/-- the kit's sort by a comparison -/
def pdqE (T : Ty) (Q : T.den → Prop) [Inhabited (Els T Q)] (cmp : T.den → T.den → Int) (d : Array (Els T Q)) : Array (Els T Q) := pdq (Go.Proofs.ltOf fun x y : Els T Q => cmp x.1 y.1) d 0 d.size (Lib.bitLen d.size) true true
/-- a comparison orders the elements of a row -/
def Orders (T : Ty) (cmp : T.den → T.den → Int) (xs : List T.den) : Prop := SWO (Go.Proofs.ltOf fun x y : Els T (· ∈ xs) => cmp x.1 y.1)
theorem sort_inh {T : Ty} {xs : List T.den} (hw : ∀ x ∈ xs, WF T x) (hne : xs ≠ []) : Nonempty (Els T (· ∈ xs)) := ⟨⟨xs.head hne, hw _ (List.head_mem hne), List.head_mem hne⟩⟩
open Classical in
noncomputable def sortF (T : Ty) (cmp : T.den → T.den → Int) (xs : List T.den) : Option (List T.den) :=
  if h : (∀ x ∈ xs, WF T x) ∧ xs.length < 4611686018427387904 ∧ Orders T cmp xs ∧ xs ≠ [] then some ((@pdqE T (· ∈ xs) (Classical.inhabited_of_nonempty (sort_inh h.1 h.2.2.2)) cmp (xs.attachWith _ fun x hx => ⟨h.1 x hx, hx⟩).toArray).toList.map (·.1))
  else if xs = [] then some [] else none
theorem pdqE_spec {T : Ty} {Q : T.den → Prop} [Inhabited (Els T Q)] {cmp : T.den → T.den → Int} (hS : SWO (Go.Proofs.ltOf fun x y : Els T Q => cmp x.1 y.1)) (d : Array (Els T Q)) : (pdqE T Q cmp d).size = d.size ∧ (pdqE T Q cmp d).toList.Perm d.toList ∧ (pdqE T Q cmp d).toList.Pairwise fun a b => ¬ cmp b.1 a.1 < 0 := by
  obtain ⟨⟨h1, _, h2⟩, h3⟩ := pdq_sorts (Go.Proofs.ltOf fun x y : Els T Q => cmp x.1 y.1) hS d 0 d.size (Lib.bitLen d.size) true true (Nat.zero_le _) (Nat.le_refl _) (.inl rfl)
  refine ⟨h1, ?_, ?_⟩
  · have e1 : ∀ q : Array (Els T Q), q.size = d.size → q.extract 0 d.size = q := fun q h => by rw [← h]; exact Array.extract_size
    rw [e1 _ h1, Array.extract_size] at h2
    exact h2
  · rw [List.pairwise_iff_getElem]
    intro i j hi hj hij
    have hj2 : j < d.size := by rw [← h1]; simpa [pdqE] using hj
    have := h3 i j (Nat.zero_le _) hij hj2
    have hsz : (pdq (Go.Proofs.ltOf fun x y : Els T Q => cmp x.1 y.1) d 0 d.size (Lib.bitLen d.size) true true).size = d.size := h1
    rw [getElem!_pos _ j (by rw [hsz]; exact hj2), getElem!_pos _ i (by rw [hsz]; omega)] at this
    simp only [Go.Proofs.ltOf, decide_eq_false_iff_not] at this
    simpa [pdqE] using this
/-- WHAT A SORT COMES TO. -/
theorem sortF_spec {T : Ty} {cmp : T.den → T.den → Int} {xs : List T.den} (hw : ∀ x ∈ xs, WF T x) (hl : xs.length < 4611686018427387904) (hS : Orders T cmp xs) :
    ∃ ys, sortF T cmp xs = some ys ∧ ys.Perm xs ∧ ys.Pairwise fun a b => ¬ cmp b a < 0 := by
  by_cases hne : xs = []
  · subst hne
    exact ⟨[], by unfold sortF; rw [dif_neg (fun h => h.2.2.2 rfl), if_pos rfl], .nil, .nil⟩
  · have h : (∀ x ∈ xs, WF T x) ∧ xs.length < 4611686018427387904 ∧ Orders T cmp xs ∧ xs ≠ [] := ⟨hw, hl, hS, hne⟩
    letI := Classical.inhabited_of_nonempty (sort_inh hw hne)
    obtain ⟨h1, h2, h3⟩ := pdqE_spec hS (xs.attachWith (fun x => WF T x ∧ x ∈ xs) fun x hx => ⟨hw x hx, hx⟩).toArray
    refine ⟨_, by unfold sortF; rw [dif_pos h], ?_, ?_⟩
    · have := h2.map (·.1)
      simpa using this
    · rw [List.pairwise_map]
      exact h3
/-- slices.SortFunc at structs -/
theorem sortK {f g : FuncId} (hen : Enters P f) {T : Ty} (hT : T.deep = false) (hagg : T.isAgg = true) (hpos : 0 < T.cells) {cmp : T.den → T.den → Int} (hc : @SoundF monotYes P g (FSem.fn (.cons T (.cons T .nil)) (.cons (.int .i64) .nil) fun x => (cmp x.1 x.2.1, ())))
    (hk0 : ∀ (p : Option Addr) (cap : Nat) (fv : Value) (w : World), Calls P f #[.slice p 0 cap, fv] w fun e w' => e = .returned (.tuple #[]) ∧ w' = w)
    (hk1 : ∀ (Q : T.den → Prop) (_ : Inhabited (Els T Q)) (cf : Els T Q → Els T Q → Int), SWO (Go.Proofs.ltOf cf) → ∀ (blk off cap : Nat) (d : Array (Els T Q)) (w : World), Go.Proofs.CmpLays P g #[] (encE T Q) T.cells cf blk off d.size w → HoldsK (encE T Q) T.cells w blk off d → blk < w.heap.size → d.size < 4611686018427387904 →
      Calls P f #[.slice (some ⟨blk, off, none⟩) d.size cap, .func (.func g) #[] #[]] w fun e w' => e = .returned (.tuple #[]) ∧ ∃ n os, w' = Go.Proofs.sortWorldK (encE T Q) T.cells w blk off n (pdq (Go.Proofs.ltOf cf) d 0 d.size (Lib.bitLen d.size) true true) os) :
    SoundF P f (FSem.rfn T .nil g fun xs _ => sortF T cmp xs) := by
  refine rfn_leaf hen (fun ys hy => ?_) (fun xs ys _ hy w A b off c hr hA hlay => ?_)
  · unfold sortF at hy
    rw [dif_neg (fun h => h.2.2.2 rfl), if_pos rfl] at hy
    cases hy
    exact ⟨rfl, fun w p => (hk0 p 0 _ w).mono fun e w' ⟨h1, h2⟩ => ⟨h1, by rw [h2]; exact Keep.refl _ _⟩⟩
  · unfold sortF at hy
    split at hy
    · rename_i h
      cases hy
      letI := Classical.inhabited_of_nonempty (sort_inh h.1 h.2.2.2)
      have hm : ∀ x ∈ xs, WF T x ∧ x ∈ xs := fun x hx => ⟨h.1 x hx, hx⟩
      have hsz : (xs.attachWith _ hm).toArray.size = xs.length := by simp
      have hcall := hk1 (· ∈ xs) inferInstance (fun x y => cmp x.1 y.1) h.2.2.1 b off c (xs.attachWith _ hm).toArray w (fun m os dk _ x y => @cmp_calls monotYes _ (@MonotOK.mk monotYes trivial) _ _ hT hagg _ _ hc x y _ (fun p hp => (lay_keep (A' := A) hlay (keep_put (b := b)) (fun _ _ h => h) (fun x e => by subst e; exact hA) p hp).1)) (real_holdsK hT hpos hr hm) (real_blk hr) (by rw [hsz]; exact h.2.1)
      rw [hsz] at hcall
      refine hcall.mono ?_
      rintro e w' ⟨rfl, n, os, rfl⟩
      have hps := (pdqE_spec h.2.2.1 (xs.attachWith _ hm).toArray).1
      have hlen : (pdqE T (· ∈ xs) cmp (xs.attachWith _ hm).toArray).toList.length = xs.length := by rw [Array.length_toList, hps, hsz]
      refine ⟨rfl, keep_put, by rw [List.length_map, hlen], ?_⟩
      have := real_putK hT hpos hr (zs := (pdqE T (· ∈ xs) cmp (xs.attachWith _ hm).toArray).toList) hlen hA n os
      simp only [Array.toArray_toList] at this
      unfold pdqE at this ⊢
      rw [hsz] at this ⊢
      exact this
    · split at hy
      · rename_i h
        cases hy
        subst h
        have hcall := hk0 (some ⟨b, off, none⟩) c (.func (.func g) #[] #[]) w
        refine hcall.mono ?_
        rintro e w' ⟨rfl, rfl⟩
        exact ⟨rfl, Keep.refl _ _, rfl, hr⟩
      · cases hy
end
end Go.Vm

/- Vm, part 39: slices.SortFunc by a comparison that may have no answer. Own work. -/
set_option linter.unusedVariables false
set_option linter.unusedSimpArgs false
set_option linter.unusedSectionVars false
namespace Go.Vm
variable [MonotC]
open Go.RowKit Go.Sort Go.Shelf Go.Lib
section
variable {P : Program} {w w' : World} {A A' : Nat → Prop}
end
end Go.Vm

/- Vm, part 37: laws of maps: what is found, what there is; sorted lists. Own work. -/
set_option linter.unusedVariables false
set_option linter.unusedSimpArgs false
namespace Go.Vm
section
variable {κ ν : Type} {eq : κ → κ → Bool}
mutual
theorem keq_refl : ∀ (K : Ty) (x : K.den), K.deep = false → keq K x x = true
  | .int k, x, h => by simp only [keq]; exact beq_self_eq_true (α := Int) x
  | .bool, x, h => by simp only [keq]; exact beq_self_eq_true (α := Bool) x
  | .str, x, h => by simp only [keq]; exact sEq_iff.2 rfl
  | .slice t, x, h => by simp [Ty.deep] at h
  | .struct fs, x, h => by simp only [keq]; exact keqs_refl fs x (by simpa only [Ty.deep] using h)
theorem keqs_refl : ∀ (K : Tys) (x : K.den), Ty.deep.go K = false → keqs K x x = true
  | .nil, x, h => rfl
  | .cons t ts, x, h => by
    have : t.deep = false ∧ Ty.deep.go ts = false := by
      cases t <;> simp [Ty.deep.go, Ty.deep] at h ⊢ <;> simp [h]
    simp only [keqs, keq_refl t x.1 this.1, keqs_refl ts x.2 this.2, Bool.and_self]
end
theorem keq_iff {K : Ty} (hd : K.deep = false) (x y : K.den) : keq K x y = true ↔ x = y := ⟨keq_eq K x y, fun h => by rw [h]; exact keq_refl K y hd⟩
abbrev mkeys (l : List (κ × ν × Nat)) : List κ := l.map (·.1)
theorem mhas_find (k : κ) : ∀ (l : List (κ × ν × Nat)), mhas eq k l = (mfind eq k l).isSome
  | [] => rfl
  | e :: l => by
    simp only [mhas, mfind, mhas_find k l]
    cases eq k e.1 <;> rfl
variable (heq : ∀ a b, eq a b = true ↔ a = b)
include heq
theorem eq_ne {a b : κ} (h : a ≠ b) : eq a b = false := by
  rw [← Bool.not_eq_true]
  exact fun e => h ((heq a b).1 e)
theorem mhas_mem (k : κ) : ∀ (l : List (κ × ν × Nat)), mhas eq k l = true ↔ k ∈ mkeys l
  | [] => by simp [mhas]
  | e :: l => by
    simp only [mhas, List.map_cons, List.mem_cons]
    cases h : eq k e.1
    · simp only [cond_false, mhas_mem k l]
      constructor
      · exact .inr
      · rintro (h2 | h2)
        · rw [(heq _ _).2 h2] at h; cases h
        · exact h2
    · simp [(heq _ _).1 h]
theorem mfind_mrep (k : κ) (v : ν) (k' : κ) : ∀ (l : List (κ × ν × Nat)), mhas eq k l = true → mfind eq k' (mrep eq k v l) = cond (eq k' k) (some v) (mfind eq k' l)
  | [], h => by simp [mhas] at h
  | e :: l, h => by
    simp only [mhas] at h
    simp only [mrep]
    cases h1 : eq k e.1
    · simp only [h1, cond_false] at h
      simp only [cond_false, mfind, mfind_mrep k v k' l h]
      cases h2 : eq k' e.1
      · rfl
      · have h3 := (heq _ _).1 h2
        have : eq k' k = false := eq_ne heq (fun e' => by rw [← e', h2] at h1; cases h1)
        rw [this]
        rfl
    · have h1' := (heq _ _).1 h1
      simp only [cond_true, mfind, h1']
      cases eq k' e.1 <;> rfl
theorem mfind_snoc (k : κ) (v : ν) (n : Nat) (k' : κ) : ∀ (l : List (κ × ν × Nat)), mhas eq k l = false → mfind eq k' (l ++ [(k, v, n)]) = cond (eq k' k) (some v) (mfind eq k' l)
  | [], _ => by simp [mfind]
  | e :: l, h => by
    simp only [mhas] at h
    cases h1 : eq k e.1
    · simp only [h1, cond_false] at h
      simp only [List.cons_append, mfind, mfind_snoc k v n k' l h]
      cases h2 : eq k' e.1
      · rfl
      · have h3 := (heq _ _).1 h2
        have : eq k' k = false := eq_ne heq (fun e' => by rw [← e', h2] at h1; cases h1)
        rw [this]
        rfl
    · simp [h1] at h
theorem mfind_mput (k : κ) (v : ν) (c : List (κ × ν × Nat) × Nat) (k' : κ) : mfind eq k' (mput eq k v c).1 = cond (eq k' k) (some v) (mfind eq k' c.1) := by
  unfold mput
  cases h : mhas eq k c.1
  · exact mfind_snoc heq k v c.2 k' c.1 h
  · exact mfind_mrep heq k v k' c.1 h
theorem mget_mput (d : ν) (k : κ) (v : ν) (c : List (κ × ν × Nat) × Nat) (k' : κ) : mget eq d k' (mput eq k v c).1 = cond (eq k' k) v (mget eq d k' c.1) := by
  unfold mget
  rw [mfind_mput heq]
  cases eq k' k <;> rfl
omit heq in
theorem keys_mrep (k : κ) (v : ν) : ∀ (l : List (κ × ν × Nat)), mkeys (mrep eq k v l) = mkeys l
  | [] => rfl
  | e :: l => by
    simp only [mrep]
    cases eq k e.1
    · simp only [cond_false, List.map_cons, keys_mrep k v l]
    · rfl
theorem keys_mput (k : κ) (v : ν) (c : List (κ × ν × Nat) × Nat) (h : (mkeys c.1).Nodup) : (mkeys (mput eq k v c).1).Nodup := by
  unfold mput
  cases h1 : mhas eq k c.1
  · simp only [cond_false, List.map_append, List.map_cons, List.map_nil]
    refine List.nodup_append.2 ⟨h, List.nodup_cons.2 ⟨by simp, List.nodup_nil⟩, fun a ha b hb => ?_⟩
    simp only [List.mem_singleton] at hb
    intro e
    rw [e, hb, ← mhas_mem heq, h1] at ha
    cases ha
  · simp only [cond_true, keys_mrep k v c.1, h]
omit heq in
theorem keys_mdel (k : κ) (l : List (κ × ν × Nat)) (h : (mkeys l).Nodup) : (mkeys (mdel eq k l)).Nodup := h.sublist ((mdel_sub eq k l).map _)
omit heq in
/-- the values that there are -/
abbrev mvals (l : List (κ × ν × Nat)) : List ν := l.map (·.2.1)
omit heq in
end
/-! ### Sorted lists -/
theorem sorted_unique {α : Type} {r : α → α → Prop} : ∀ {l l' : List α}, l.Perm l' → (∀ a ∈ l, ∀ b ∈ l, r a b → r b a → a = b) → l.Pairwise r → l'.Pairwise r → l = l'
  | [], l', hp, _, _, _ => (List.nil_perm.1 hp).symm
  | a :: l, [], hp, _, _, _ => by simpa using hp.length_eq
  | a :: l, b :: l', hp, ha, h1, h2 => by
    have hab : a = b := by
      have hb : b ∈ a :: l := hp.mem_iff.2 (by simp)
      have ha' : a ∈ b :: l' := hp.mem_iff.1 (by simp)
      rcases List.mem_cons.1 hb with e | hb'
      · exact e.symm
      · rcases List.mem_cons.1 ha' with e | ha''
        · exact e
        · exact ha a (by simp) b (by simp [hb']) ((List.pairwise_cons.1 h1).1 b hb') ((List.pairwise_cons.1 h2).1 a ha'')
    subst hab
    rw [sorted_unique (List.perm_cons a |>.1 hp) (fun x hx y hy => ha x (by simp [hx]) y (by simp [hy])) (List.pairwise_cons.1 h1).2 (List.pairwise_cons.1 h2).2]
open Classical in
theorem anyOrder_const {α τ : Type} {es : List α} {F : List α → Option τ} {z : τ} (h : ∀ l, l.Perm es → F l = some z) : anyOrder es F = some z := by
  unfold anyOrder
  rw [if_pos (fun l hl => by rw [h l hl, h es (.refl _)])]
  exact h es (.refl _)
end Go.Vm

/- Vm, part 38: comparisons. Own work. -/
set_option linter.unusedVariables false
set_option linter.unusedSimpArgs false
namespace Go.Vm
open Go.Lib Go.Sort
/-- a comparison that is right for those of whom p holds -/
structure CmpOK {α : Type} (cmp : α → α → Int) (p : α → Prop) : Prop where
  anti : ∀ a b, p a → p b → (cmp a b < 0 ↔ 0 < cmp b a)
  trans : ∀ a b c, p a → p b → p c → cmp a b ≤ 0 → cmp b c ≤ 0 → cmp a c ≤ 0
section
variable {α β : Type} {cmp : α → α → Int} {p : α → Prop}
theorem CmpOK.self (h : CmpOK cmp p) {a : α} (ha : p a) : cmp a a = 0 := by
  have := h.anti a a ha ha
  omega
theorem CmpOK.mono {q : α → Prop} (h : CmpOK cmp p) (hq : ∀ a, q a → p a) : CmpOK cmp q := ⟨fun a b ha hb => h.anti a b (hq a ha) (hq b hb), fun a b c ha hb hc => h.trans a b c (hq a ha) (hq b hb) (hq c hc)⟩
theorem CmpOK.flip_le (h : CmpOK cmp p) {a b : α} (ha : p a) (hb : p b) : cmp a b ≤ 0 ↔ 0 ≤ cmp b a := by
  have := h.anti b a hb ha
  omega
theorem CmpOK.zero (h : CmpOK cmp p) {a b : α} (ha : p a) (hb : p b) : cmp a b = 0 ↔ cmp b a = 0 := by
  have h1 := h.anti b a hb ha
  have h2 := h.anti a b ha hb
  omega
theorem CmpOK.lt_le (h : CmpOK cmp p) {a b c : α} (ha : p a) (hb : p b) (hc : p c) (h1 : cmp a b < 0) (h2 : cmp b c ≤ 0) : cmp a c < 0 := by
  have h3 := h.trans a b c ha hb hc (by omega) h2
  by_cases h4 : cmp a c < 0
  · exact h4
  · have h5 : cmp c a ≤ 0 := (h.flip_le hc ha).2 (by omega)
    have h6 := h.trans b c a hb hc ha h2 h5
    have := h.anti a b ha hb
    omega
theorem CmpOK.le_lt (h : CmpOK cmp p) {a b c : α} (ha : p a) (hb : p b) (hc : p c) (h1 : cmp a b ≤ 0) (h2 : cmp b c < 0) : cmp a c < 0 := by
  have h3 := h.trans a b c ha hb hc h1 (by omega)
  by_cases h4 : cmp a c < 0
  · exact h4
  · have h5 : cmp c a ≤ 0 := (h.flip_le hc ha).2 (by omega)
    have h6 := h.trans c a b hc ha hb h5 h1
    have := h.anti b c hb hc
    omega
theorem CmpOK.on (f : β → α) (h : CmpOK cmp p) : CmpOK (fun a b => cmp (f a) (f b)) (fun b => p (f b)) :=
  ⟨fun a b ha hb => h.anti _ _ ha hb, fun a b c ha hb hc => h.trans _ _ _ ha hb hc⟩
theorem CmpOK.congr {cmp' : α → α → Int} (h : CmpOK cmp p) (he : ∀ a b, p a → p b → cmp' a b = cmp a b) : CmpOK cmp' p :=
  ⟨fun a b ha hb => by rw [he a b ha hb, he b a hb ha]; exact h.anti a b ha hb, fun a b c ha hb hc => by rw [he a b ha hb, he b c hb hc, he a c ha hc]; exact h.trans a b c ha hb hc⟩
/-- first by one, then by another one -/
def lexC (c1 c2 : α → α → Int) (a b : α) : Int := if c1 a b = 0 then c2 a b else c1 a b
theorem CmpOK.lex {c1 c2 : α → α → Int} (h1 : CmpOK c1 p) (h2 : CmpOK c2 p) : CmpOK (lexC c1 c2) p := by
  refine ⟨fun a b ha hb => ?_, fun a b c ha hb hc => ?_⟩
  · unfold lexC
    have z := h1.zero ha hb
    by_cases e : c1 a b = 0
    · rw [if_pos e, if_pos (z.1 e)]; exact h2.anti a b ha hb
    · rw [if_neg e, if_neg (fun e' => e (z.2 e'))]; exact h1.anti a b ha hb
  · unfold lexC
    intro g1 g2
    by_cases e1 : c1 a b = 0
    · rw [if_pos e1] at g1
      by_cases e2 : c1 b c = 0
      · rw [if_pos e2] at g2
        have e3 : c1 a c = 0 := by
          have h3 := h1.trans a b c ha hb hc (by omega) (by omega)
          have h4 := h1.trans c b a hc hb ha (by have := (h1.zero hb hc).1 e2; omega) (by have := (h1.zero ha hb).1 e1; omega)
          have h5 := h1.flip_le hc ha
          have := h5.1 h4
          omega
        rw [if_pos e3]
        exact h2.trans a b c ha hb hc g1 g2
      · rw [if_neg e2] at g2
        have := h1.le_lt ha hb hc (by omega : c1 a b ≤ 0) (by omega)
        rw [if_neg (by omega)]
        omega
    · rw [if_neg e1] at g1
      have h3 : c1 b c ≤ 0 := by
        by_cases e2 : c1 b c = 0
        · omega
        · rw [if_neg e2] at g2; exact g2
      have := h1.lt_le ha hb hc (by omega : c1 a b < 0) h3
      rw [if_neg (by omega)]
      omega
theorem CmpOK.orders {T : Ty} {cmp : T.den → T.den → Int} {xs : List T.den} (h : CmpOK cmp (· ∈ xs)) : Orders T cmp xs := by
  refine ⟨fun x => ?_, fun x y z h1 h2 => ?_, fun x y z h1 h2 => ?_⟩
  · simp only [Go.Proofs.ltOf, h.self x.2.2]; rfl
  · simp only [Go.Proofs.ltOf, decide_eq_true_eq] at *
    exact h.lt_le x.2.2 y.2.2 z.2.2 h1 (by omega)
  · simp only [Go.Proofs.ltOf, decide_eq_false_iff_not] at *
    have g1 := (h.flip_le y.2.2 x.2.2).2 (by omega)
    have g2 := (h.flip_le z.2.2 y.2.2).2 (by omega)
    have := h.trans _ _ _ z.2.2 y.2.2 x.2.2 g2 g1
    have := (h.flip_le z.2.2 x.2.2).1 this
    omega
/-- a sort, where the order tells all apart -/
theorem sortF_total {T : Ty} {cmp : T.den → T.den → Int} {xs : List T.den} (hw : ∀ x ∈ xs, WF T x) (hl : xs.length < 4611686018427387904) (h : CmpOK cmp (· ∈ xs)) :
    ∃ ys, sortF T cmp xs = some ys ∧ ys.Perm xs ∧ ys.Pairwise fun a b => cmp a b ≤ 0 := by
  obtain ⟨ys, h1, h2, h3⟩ := sortF_spec hw hl h.orders
  refine ⟨ys, h1, h2, ?_⟩
  have hm : ∀ y ∈ ys, y ∈ xs := fun y hy => h2.mem_iff.1 hy
  refine List.Pairwise.imp_of_mem (fun {a b} ha hb hab => ?_) h3
  exact (h.flip_le (hm a ha) (hm b hb)).2 (by omega)
end
/-! ### Comparisons that there are -/
def cmpI (a b : Int) : Int := if a < b then -1 else if a > b then 1 else 0
theorem cmpI_ok : CmpOK cmpI (fun _ => True) := by
  refine ⟨fun a b _ _ => ?_, fun a b c _ _ _ => ?_⟩ <;> unfold cmpI <;> repeat' split
  all_goals omega
theorem cmpI_zero {a b : Int} : cmpI a b = 0 ↔ a = b := by
  unfold cmpI
  repeat' split
  all_goals omega
theorem bytes_zero : ∀ {a b : List UInt8}, compareBytes a b = 0 ↔ a = b
  | [], [] => by simp [compareBytes]
  | [], _ :: _ => by simp [compareBytes]
  | _ :: _, [] => by simp [compareBytes]
  | x :: a, y :: b => by
    simp only [compareBytes]
    by_cases h1 : x < y
    · rw [if_pos h1]
      have : x ≠ y := fun e => by rw [e] at h1; exact absurd h1 (UInt8.lt_irrefl _)
      simp [this]
    · rw [if_neg h1]
      by_cases h2 : y < x
      · rw [if_pos h2]
        have : x ≠ y := fun e => by rw [e] at h2; exact absurd h2 (UInt8.lt_irrefl _)
        simp [this]
      · rw [if_neg h2, bytes_zero]
        have : x = y := UInt8.le_antisymm (UInt8.not_lt.1 h2) (UInt8.not_lt.1 h1)
        simp [this]
theorem bytes_anti : ∀ (a b : List UInt8), compareBytes a b = - compareBytes b a
  | [], [] => rfl
  | [], _ :: _ => rfl
  | _ :: _, [] => rfl
  | x :: a, y :: b => by
    simp only [compareBytes]
    by_cases h1 : x < y
    · rw [if_pos h1, if_neg (UInt8.lt_asymm h1), if_pos h1]
    · rw [if_neg h1]
      by_cases h2 : y < x
      · rw [if_pos h2, if_pos h2]; rfl
      · rw [if_neg h2, if_neg h2, if_neg h1]
        exact bytes_anti a b
theorem bytes_trans : ∀ (a b c : List UInt8), compareBytes a b ≤ 0 → compareBytes b c ≤ 0 → compareBytes a c ≤ 0
  | [], b, c, _, _ => by cases c <;> simp [compareBytes]
  | _ :: _, [], c, h, _ => by simp [compareBytes] at h
  | _ :: _, _ :: _, [], _, h => by simp [compareBytes] at h
  | x :: a, y :: b, z :: c, h1, h2 => by
    simp only [compareBytes] at *
    by_cases e1 : x < y
    · by_cases e2 : y < z
      · rw [if_pos (UInt8.lt_trans e1 e2)]; decide
      · rw [if_neg e2] at h2
        by_cases e3 : z < y
        · rw [if_pos e3] at h2; omega
        · have : y = z := UInt8.le_antisymm (UInt8.not_lt.1 e3) (UInt8.not_lt.1 e2)
          subst this
          rw [if_pos e1]; decide
    · rw [if_neg e1] at h1
      by_cases e2 : y < x
      · rw [if_pos e2] at h1; omega
      · rw [if_neg e2] at h1
        have : x = y := UInt8.le_antisymm (UInt8.not_lt.1 e2) (UInt8.not_lt.1 e1)
        subst this
        by_cases e3 : x < z
        · rw [if_pos e3]; decide
        · rw [if_neg e3] at h2 ⊢
          by_cases e4 : z < x
          · rw [if_pos e4] at h2; omega
          · rw [if_neg e4] at h2 ⊢
            exact bytes_trans a b c h1 h2
/-- strings.Compare -/
def cmpS (a b : ByteArray) : Int := compareBytes a.data.toList b.data.toList
theorem cmpS_ok : CmpOK cmpS (fun _ => True) :=
  ⟨fun a b _ _ => by unfold cmpS; rw [bytes_anti a.data.toList]; omega, fun a b c _ _ _ => bytes_trans _ _ _⟩
theorem bytes_of {a b : ByteArray} (h : a.data.toList = b.data.toList) : a = b := by
  cases a; cases b
  simp only [ByteArray.mk.injEq]
  exact Array.toList_inj.1 h
theorem cmpS_zero {a b : ByteArray} : cmpS a b = 0 ↔ a = b := by
  unfold cmpS
  rw [bytes_zero]
  exact ⟨bytes_of, fun h => by rw [h]⟩
end Go.Vm
