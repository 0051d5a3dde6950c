/- Vm, part 26: what a statement's arguments are as data. Own work. -/
import Derived.Test.YtfiembgemhonlaaVmPure
import Derived.WalkKit
import Derived.ProofKit
import Derived.OpenShut
import Derived.JoinedCond
import Derived.ChangeStays
set_option linter.unusedVariables false
set_option linter.unusedSimpArgs false
namespace Go.Vm
open Go.RowKit Go.ChangeShapes Go.WideShapes Go.ChangeAt
/-! ### How large data are -/
mutual
/-- every value and every letter counts -/
def bulk : (T : Ty) → T.den → Nat
  | .int _, _ => 1
  | .bool, _ => 1
  | .str, s => ByteArray.size s + 1
  | .slice t, xs => (List.map (fun x => bulk t x) xs).sum + 1
  | .struct fs, x => bulks fs x + 1
def bulks : (T : Tys) → T.den → Nat
  | .nil, _ => 0
  | .cons t ts, x => bulk t x.1 + bulks ts x.2
end
mutual
/-- all integers are such of their kind -/
def Rng : (T : Ty) → T.den → Prop
  | .int k, x => k.min ≤ x ∧ (show Int from x) ≤ k.max
  | .bool, _ => True
  | .str, _ => True
  | .slice t, xs => ∀ i x, nth (α := t.den) xs i = some x → Rng t x
  | .struct fs, x => Rngs fs x
def Rngs : (T : Tys) → T.den → Prop
  | .nil, _ => True
  | .cons t ts, x => Rng t x.1 ∧ Rngs ts x.2
end
section
variable {H : Type}
mutual
def dBulk : DataW H → Nat
  | .lit l => match l with
    | .string bytes => bytes.length + 1
    | _ => 1
  | .slice elems _ => dBulkAll elems + 1
  | .agg parts => dBulkAll parts + 1
  | _ => 1
def dBulkAll : List (DataW H) → Nat
  | [] => 0
  | d :: l => dBulk d + dBulkAll l
end
theorem dBulkAll_append (l m : List (DataW H)) : dBulkAll (l ++ m) = dBulkAll l + dBulkAll m := by
  induction l with
  | nil => simp [dBulkAll]
  | cons d l ih => simp only [List.cons_append, dBulkAll, ih]; omega
theorem dBulkAll_map {α : Type} (f : α → Nat) : ∀ (xs : List α) (ds : List (DataW H)), xs.length = ds.length → (∀ (i : Nat) (x : α) (d : DataW H), xs[i]? = some x → ds[i]? = some d → f x ≤ dBulk d) → (xs.map f).sum ≤ dBulkAll ds
  | [], ds, _, _ => by simp
  | x :: xs, [], h, _ => by simp at h
  | x :: xs, d :: ds, h, hf => by
    simp only [List.map_cons, List.sum_cons, dBulkAll]
    have h1 := hf 0 x d rfl rfl
    have h2 := dBulkAll_map f xs ds (by simpa using h) (fun i y e hy he => hf (i + 1) y e (by simpa using hy) (by simpa using he))
    omega
variable {enc : TypeId × Value → H} {P : Program} {w : World} {spare : Nat → Bool}
theorem TyOK.cellsOf : ∀ {T : Ty} {t : TypeId}, TyOK P t T → P.cellsOf t = T.cells := by
  intro T t h
  cases T <;> simp only [TyOK] at h <;> obtain ⟨⟨i, h1, h2, _⟩, _⟩ := h <;> simp [Program.cellsOf, h1, h2, Ty.cells]
theorem maxLen_le : maxLen ≤ 9223372036854775807 := by unfold maxLen; omega
theorem exists_list {α : Type} {p : Nat → α → Prop} : ∀ (n : Nat), (∀ i, i < n → ∃ x, p i x) → ∃ xs : List α, xs.length = n ∧ ∀ i x, xs[i]? = some x → p i x
  | 0, _ => ⟨[], rfl, fun i x h => by simp at h⟩
  | n + 1, h => by
    obtain ⟨xs, h1, h2⟩ := exists_list (p := fun i x => p (i + 1) x) n (fun i hi => h (i + 1) (by omega))
    obtain ⟨x, hx⟩ := h 0 (by omega)
    refine ⟨x :: xs, by simp [h1], fun i y hy => ?_⟩
    cases i with
    | zero => simp at hy; subst hy; exact hx
    | succ i => exact h2 i y (by simpa using hy)
theorem cells?_lies {b : Nat} {a : Addr} {n : Nat} {cs : List Value} (hn : 0 < n) (h : w.cells? 0 a n = some cs) : a.spot = none ∧ a.block < w.heap.size ∧ cs.length = n ∧ ∀ j v, cs[j]? = some v → w.cell? ⟨a.block, a.off + j, none⟩ = some v := by
  obtain ⟨_, hlen, hcell⟩ := World.cells?_some h
  obtain ⟨b, off, spot⟩ := a
  have g0 := hcell 0 hn
  obtain ⟨c0, hc0⟩ : ∃ c0, cs[0]? = some c0 := by
    cases cs with
    | nil => simp at hlen; omega
    | cons c _ => exact ⟨c, rfl⟩
  rw [hc0] at g0
  have hspot : spot = none := by simpa [Addr.add] using World.cell?_spot g0
  subst hspot
  refine ⟨rfl, ?_, hlen, fun j v hv => ?_⟩
  · have := World.block_lt_of_cell? w _ g0
    simpa [Addr.add] using this
  · have hj : j < n := by
      have := (List.getElem?_eq_some_iff.1 hv).1
      omega
    have := hcell j hj
    rw [hv, add_plain] at this
    exact this
/-- the parts of a struct -/
def partsOK (enc : TypeId × Value → H) (P : Program) (w : World) (spare : Nat → Bool) (n : Nat) (cs : List Value) : List Field → List (DataW H × List MemPlace) → Prop
  | [], [] => True
  | f :: fs, x :: xs => DataW.trod enc P w 0 spare true n f.type ((cs.drop f.offset).take (P.cellsOf f.type)) = some x ∧ partsOK enc P w spare n cs fs xs
  | _, _ => False
theorem partsOK_of {n : Nat} {cs : List Value} : ∀ (fs : List Field) (xs : List (DataW H × List MemPlace)), xs.length = fs.length → (∀ (i : Nat) (f : Field), fs[i]? = some f → DataW.trod enc P w 0 spare true n f.type ((cs.drop f.offset).take (P.cellsOf f.type)) = xs[i]?) → partsOK enc P w spare n cs fs xs
  | [], [], _, _ => trivial
  | f :: fs, x :: xs, hl, h => ⟨by simpa using h 0 f rfl, partsOK_of fs xs (by simpa using hl) (fun i f hf => by simpa using h (i + 1) f (by simpa using hf))⟩
  | [], _ :: _, hl, _ => by simp at hl
  | _ :: _, [], hl, _ => by simp at hl
mutual
/-- WHAT IS READ IS DATA. -/
theorem trod_data : ∀ (T : Ty) (t : TypeId) (fuel : Nat) (cs : List Value) (d : DataW H) (ps : List MemPlace), TyOK P t T → DataW.trod enc P w 0 spare true fuel t cs = some (d, ps) →
    ∃ x : T.den, DR w None T x cs ∧ bulk T x ≤ dBulk d ∧ Rng T x
  | .int k, t, fuel, cs, d, ps, hT, h => by
    simp only [TyOK] at hT
    obtain ⟨n, rfl, hx, hw⟩ := DataW.trod_int hT.2 h
    cases hx
    refine ⟨n, by simp only [DR], by simp only [bulk, dBulk]; omega, ?_⟩
    simp only [Lit.wf, Bool.and_eq_true, decide_eq_true_eq] at hw
    simp only [Rng]
    exact hw
  | .bool, t, fuel, cs, d, ps, hT, h => by
    simp only [TyOK] at hT
    obtain ⟨b, rfl, hx⟩ := DataW.trod_bool hT.2 h
    cases hx
    exact ⟨b, by simp only [DR], by simp only [bulk, dBulk]; omega, by simp only [Rng]⟩
  | .str, t, fuel, cs, d, ps, hT, h => by
    simp only [TyOK] at hT
    obtain ⟨s, rfl, hx, hs⟩ := DataW.trod_string hT.2 h
    cases hx
    refine ⟨s, ?_, ?_, by simp only [Rng]⟩
    · simp only [DR]
      exact ⟨trivial, Nat.le_trans hs maxLen_le⟩
    · simp only [bulk, dBulk]
      have : s.size = s.data.toList.length := by rw [Array.length_toList]; rfl
      omega
  | .slice T, t, fuel, cs, d, ps, hT, h => by
    simp only [TyOK] at hT
    obtain ⟨_, e, he, hTe, hpos⟩ := hT
    have hce := hTe.cellsOf
    rcases DataW.trod_slice he h with ⟨rfl, hx⟩ | ⟨a, len, cap, elems, rest, n, _, rfl, hx, _, hl, hm, hlen, hel, _, _⟩
    · cases hx
      refine ⟨([] : List T.den), ?_, ?_, ?_⟩
      · simp only [DR]
        exact ⟨none, 0, rfl, ⟨Nat.le_refl _, Nat.zero_le _⟩, .inl rfl⟩
      · simp [bulk, dBulk]
      · simp only [Rng]
        intro i x hi
        simp [nth] at hi
    · cases hx
      have hget : ∀ i, i < len → ∃ y : T.den, ∃ cs', w.cells? 0 (a.add (i * P.cellsOf e)) (P.cellsOf e) = some cs' ∧ DR w None T y cs' ∧ (∀ z, elems[i]? = some z → bulk T y ≤ dBulk z.1) ∧ Rng T y := fun i hi => by
        have h1 := hel i hi
        obtain ⟨z, hz⟩ : ∃ z, elems[i]? = some z := ⟨elems[i], List.getElem?_eq_getElem (by omega)⟩
        rw [hz] at h1
        obtain ⟨cs', h2, h3⟩ := Option.bind_eq_some_iff.1 h1
        obtain ⟨y, h4, h5, h6⟩ := trod_data T e n cs' z.1 z.2 hTe h3
        exact ⟨y, cs', h2, h4, fun z' hz' => (by rw [hz] at hz'; cases hz'; exact h5), h6⟩
      obtain ⟨xs, hxl, hxs⟩ := exists_list len hget
      refine ⟨xs, ?_, ?_, ?_⟩
      · simp only [DR]
        refine ⟨some a, cap, by rw [hxl], ⟨by rw [hxl]; exact hl, Nat.le_trans hm maxLen_le⟩, ?_⟩
        cases hlz : xs with
        | nil => exact .inl rfl
        | cons x0 xr =>
          rw [← hlz]
          right
          have h0 : 0 < len := by rw [← hxl, hlz]; simp
          obtain ⟨cs0, hc0, _⟩ := hxs 0 x0 (by rw [hlz]; rfl)
          obtain ⟨hsp, hb, _, _⟩ := cells?_lies (b := 0) (by rw [hce]; exact hpos) hc0
          obtain ⟨ab, ao, as⟩ := a
          have hs : as = none := by simpa [Addr.add] using hsp
          subst hs
          refine ⟨ab, ao, rfl, fun h => h, by simpa [Addr.add] using hb, fun i x hi => ?_⟩
          · obtain ⟨cs', h2, h4, _⟩ := hxs i x hi
            obtain ⟨_, _, _, h8⟩ := cells?_lies (b := 0) (by rw [hce]; exact hpos) h2
            refine ⟨cs', h4, fun j v hj => ?_⟩
            have := h8 j v hj
            rw [hce] at this
            rw [add_plain] at this
            exact this
      · simp only [bulk, dBulk]
        have := dBulkAll_map (fun x => bulk T x) xs (elems.map (·.1)) (by simp [hxl, hlen]) (fun i x d hx hd => by
          obtain ⟨_, _, _, h5, _⟩ := hxs i x hx
          rw [List.getElem?_map] at hd
          cases hz : elems[i]? with
          | none => rw [hz] at hd; cases hd
          | some z => rw [hz] at hd; simp at hd; subst hd; exact h5 z hz)
        omega
      · simp only [Rng]
        intro i x hi
        obtain ⟨_, _, _, _, h6⟩ := hxs i x hi
        exact h6
  | .struct fs, t, fuel, cs, d, ps, hT, h => by
    have hcl := hT.cellsOf
    simp only [TyOK] at hT
    obtain ⟨_, fields, hf, hTs⟩ := hT
    obtain ⟨xs, n, _, hx, hlen, hxl, hparts⟩ := DataW.trod_struct hf h
    cases hx
    rw [hcl] at hlen
    obtain ⟨x, h1, h2, h3⟩ := trod_parts fs fields.toList 0 n cs xs hTs (partsOK_of _ _ (by simpa using hxl) (fun i f hi => hparts i f (by simpa using hi)))
      (by simpa [Ty.cells] using hlen)
    refine ⟨x, ?_, ?_, ?_⟩
    · simp only [DR]; simpa using h1
    · simp only [bulk, dBulk]; omega
    · simp only [Rng]; exact h3
theorem trod_parts : ∀ (T : Tys) (fields : List Field) (off : Nat) (n : Nat) (cs : List Value) (xs : List (DataW H × List MemPlace)), TysOK P fields off T → partsOK enc P w spare n cs fields xs → cs.length = off + T.cells →
    ∃ x : T.den, DRs w None T x (cs.drop off) ∧ bulks T x ≤ dBulkAll (xs.map (·.1)) ∧ Rngs T x
  | .nil, fields, off, n, cs, xs, hT, h, hl => by
    refine ⟨(), ?_, by simp [bulks], by simp only [Rngs]⟩
    simp only [DRs]
    simp only [Tys.cells] at hl
    exact List.drop_eq_nil_of_le (by omega)
  | .cons t ts, [], off, n, cs, xs, hT, h, hl => by simp only [TysOK] at hT
  | .cons t ts, f :: fields, off, n, cs, xs, hT, h, hl => by
    simp only [TysOK] at hT
    obtain ⟨ho, hpos, hTf, hTs⟩ := hT
    cases xs with
    | nil => simp only [partsOK] at h
    | cons z xs =>
      simp only [partsOK] at h
      obtain ⟨h1, h2⟩ := h
      simp only [Tys.cells] at hl
      obtain ⟨x, g1, g2, g3⟩ := trod_data t f.type n _ z.1 z.2 hTf h1
      obtain ⟨y, k1, k2, k3⟩ := trod_parts ts fields (off + t.cells) n cs xs hTs h2 (by omega)
      refine ⟨(x, y), ?_, ?_, ?_⟩
      · simp only [DRs]
        refine ⟨(cs.drop off).take t.cells, cs.drop (off + t.cells), ?_, ?_, k1⟩
        · rw [← List.drop_drop, List.take_append_drop]
        · rw [ho, hTf.cellsOf] at g1; exact g1
      · simp only [bulks, List.map_cons, dBulkAll]; omega
      · simp only [Rngs]; exact ⟨g3, k3⟩
end
end
theorem castL_self (T : Ty) (xs : List T.den) : castL T T xs = some xs := by simp [castL]
mutual
theorem implode_explode : ∀ (T : Ty) (x : T.den), implode T (explode T x) = some x
  | .int k, x => by simp only [implode, explode, asInt?]; exact if_pos trivial
  | .bool, x => rfl
  | .str, x => rfl
  | .slice t, x => by simp only [implode, explode, asSl?]; exact castL_self t x
  | .struct fs, x => by simp only [implode, explode, asAgg?]; exact implodes_explodes fs x
theorem implodes_explodes : ∀ (T : Tys) (x : T.den), implodes T (explodes T x) = some x
  | .nil, x => rfl
  | .cons t ts, x => by
    simp only [implodes, explodes, implode_explode t x.1, implodes_explodes ts x.2, Option.bind_some]
    rfl
end
theorem bulk_pos : ∀ (T : Ty) (x : T.den), 1 ≤ bulk T x
  | .int _, _ => by simp only [bulk]; omega
  | .bool, _ => by simp only [bulk]; omega
  | .str, _ => by simp only [bulk]; omega
  | .slice _, _ => by simp only [bulk]; omega
  | .struct _, _ => by simp only [bulk]; omega
theorem sum_ge {α : Type} (f : α → Nat) : ∀ (xs : List α), (∀ x, 1 ≤ f x) → xs.length ≤ (xs.map f).sum
  | [], _ => by simp
  | x :: xs, h => by
    have := h x
    have := sum_ge f xs h
    simp only [List.map_cons, List.sum_cons, List.length_cons]
    omega
theorem len_bulk (T : Ty) (xs : List T.den) {n : Nat} (h : bulk (.slice T) xs ≤ n) : xs.length ≤ n := by
  simp only [bulk] at h
  have := sum_ge (fun x => bulk T x) xs (bulk_pos T)
  omega
end Go.Vm
