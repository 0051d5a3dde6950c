/- Vm, part 6: plain data and values; parts of values; reading and writing memory. Own work. -/
import Derived.Test.YtfiembgemhonlaaVmOps
set_option linter.unusedVariables false
set_option linter.unusedSimpArgs false
namespace Go.Vm
open Go.RowKit

theorem Ty.cells_one : ∀ {T : Ty}, T.isAgg = false → T.cells = 1
  | .int _, _ => rfl | .bool, _ => rfl | .str, _ => rfl | .slice _, _ => rfl | .struct _, h => by cases h
theorem TD.cells_one : ∀ {d : TD}, d.isAgg = false → d.cells = 1
  | .data _, h => Ty.cells_one h | .cell _, _ => rfl | .agg _, h => by cases h

section
variable {w : World} {A : Nat → Prop} {ob : Nat → OB} {μ : Nat → Value}
mutual
theorem explode_sound : ∀ (T : Ty) (x : T.den) (cs : List Value), DR w A T x cs → CR w A ob μ (explode T x) cs
  | .int _, _, _, h => by simpa only [explode, CR, DR] using h
  | .bool, _, _, h => by simpa only [explode, CR, DR] using h
  | .str, _, _, h => by simpa only [explode, CR, DR] using h
  | .slice _, _, _, h => by simpa only [explode, CR] using h
  | .struct fs, x, cs, h => by simp only [DR] at h; simpa only [explode, CR] using explodes_sound fs x cs h
theorem explodes_sound : ∀ (T : Tys) (x : T.den) (cs : List Value), DRs w A T x cs → CRs w A ob μ (explodes T x) cs
  | .nil, _, _, h => by simpa only [explodes, CRs, DRs] using h
  | .cons t ts, x, cs, h => by
    simp only [DRs] at h
    obtain ⟨c1, c2, e, h1, h2⟩ := h
    simp only [explodes, CRs]
    exact ⟨c1, c2, e, explode_sound t x.1 c1 h1, explodes_sound ts x.2 c2 h2⟩
end
theorem asInt?_some {k : IntKind} {v : PV} {x : Int} (h : asInt? k v = some x) : v = .int k x := by
  cases v <;> simp only [asInt?] at h <;> try cases h
  split at h <;> cases h
  subst_vars; rfl
theorem asBool?_some {v : PV} {x : Bool} (h : asBool? v = some x) : v = .bool x := by cases v <;> simp_all [asBool?]
theorem asStr?_some {v : PV} {x : ByteArray} (h : asStr? v = some x) : v = .str x := by cases v <;> simp_all [asStr?]
theorem asAgg?_some {v : PV} {l : List PV} (h : asAgg? v = some l) : v = .agg l := by cases v <;> simp_all [asAgg?]
theorem castL_some {T U : Ty} {xs : List T.den} {ys : List U.den} (h : castL T U xs = some ys) : ∃ e : T = U, e ▸ xs = ys := by
  unfold castL at h
  split at h <;> cases h
  rename_i e
  exact ⟨e, rfl⟩
theorem asSl?_some {T : Ty} {v : PV} {xs : List T.den} (h : asSl? T v = some xs) : v = .sl T xs ∨ (v = .nil ∧ xs = []) := by
  cases v <;> simp only [asSl?] at h <;> try cases h
  · obtain ⟨e, h⟩ := castL_some h
    subst e; subst h; exact .inl rfl
  · exact .inr ⟨rfl, rfl⟩
mutual
theorem implode_sound : ∀ (T : Ty) (v : PV) (x : T.den) (cs : List Value), implode T v = some x → CR w A ob μ v cs → DR w A T x cs
  | .int k, v, x, cs, h, hc => by
    simp only [implode] at h
    obtain rfl := asInt?_some h
    simpa only [CR, DR] using hc
  | .bool, v, x, cs, h, hc => by
    simp only [implode] at h
    obtain rfl := asBool?_some h
    simpa only [CR, DR] using hc
  | .str, v, x, cs, h, hc => by
    simp only [implode] at h
    obtain rfl := asStr?_some h
    simpa only [CR, DR] using hc
  | .slice t, v, x, cs, h, hc => by
    simp only [implode] at h
    rcases asSl?_some h with rfl | ⟨rfl, rfl⟩
    · simpa only [CR] using hc
    · simp only [CR] at hc; subst hc
      simp only [DR]; exact ⟨none, 0, rfl, ⟨Nat.le_refl _, Nat.zero_le _⟩, .inl rfl⟩
  | .struct fs, v, x, cs, h, hc => by
    simp only [implode] at h
    cases ha : asAgg? v with
    | none => simp [ha] at h
    | some l =>
      obtain rfl := asAgg?_some ha
      simp only [ha] at h
      simp only [CR] at hc
      simp only [DR]
      exact implodes_sound fs l x cs h hc
theorem implodes_sound : ∀ (T : Tys) (l : List PV) (x : T.den) (cs : List Value), implodes T l = some x → CRs w A ob μ l cs → DRs w A T x cs
  | .nil, [], x, cs, h, hc => by simpa only [CRs, DRs] using hc
  | .nil, _ :: _, x, cs, h, hc => by simp [implodes] at h
  | .cons t ts, [], x, cs, h, hc => by simp [implodes] at h
  | .cons t ts, v :: l, x, cs, h, hc => by
    simp only [implodes, Option.bind_eq_some_iff] at h
    obtain ⟨y, h1, z, h2, h⟩ := h
    cases h
    simp only [CRs] at hc
    obtain ⟨c1, c2, e, h3, h4⟩ := hc
    simp only [DRs]
    exact ⟨c1, c2, e, implode_sound t v y c1 h1 h3, implodes_sound ts l z c2 h2 h4⟩
end
mutual
theorem zeroOf_sound : ∀ (T : Ty), CR w A ob μ (zeroOf T) (zeroV T)
  | .int _ => by simp [zeroOf, zeroV, CR] | .bool => by simp [zeroOf, zeroV, CR] | .str => by simp [zeroOf, zeroV, CR]; rfl | .slice _ => by simp [zeroOf, zeroV, CR]
  | .struct fs => by simpa only [zeroOf, zeroV, CR] using zerosOf_sound fs
theorem zerosOf_sound : ∀ (T : Tys), CRs w A ob μ (zerosOf T) (zerosV T)
  | .nil => by simp [zerosOf, zerosV, CRs]
  | .cons t ts => by simp only [zerosOf, zerosV, CRs]; exact ⟨_, _, rfl, zeroOf_sound t, zerosOf_sound ts⟩
end
mutual
theorem TD.zero_sound : ∀ (d : TD), CR w A ob μ d.zero d.zeroV
  | .data T => by simpa only [TD.zero, TD.zeroV] using zeroOf_sound T
  | .cell k => by simp [TD.zero, TD.zeroV, CR]
  | .agg l => by simpa only [TD.zero, TD.zeroV, CR] using TDs.zero_sound l
theorem TDs.zero_sound : ∀ (d : TDs), CRs w A ob μ d.zero d.zeroV
  | .nil => by simp [TDs.zero, TDs.zeroV, CRs]
  | .cons d l => by simp only [TDs.zero, TDs.zeroV, CRs]; exact ⟨_, _, rfl, TD.zero_sound d, TDs.zero_sound l⟩
end
mutual
theorem dflt_sound : ∀ (T : Ty), DR w A T T.dflt (zeroV T)
  | .int _ => by simp [DR, Ty.dflt, zeroV] | .bool => by simp [DR, Ty.dflt, zeroV] | .str => by simp only [DR, Ty.dflt, zeroV]; exact ⟨rfl, Nat.zero_le _⟩
  | .slice _ => by simp only [DR, Ty.dflt, zeroV]; exact ⟨none, 0, rfl, ⟨Nat.le_refl _, Nat.zero_le _⟩, .inl rfl⟩
  | .struct fs => by simpa only [DR, Ty.dflt, zeroV] using dflts_sound fs
theorem dflts_sound : ∀ (T : Tys), DRs w A T T.dflt (zerosV T)
  | .nil => by simp [DRs, zerosV]
  | .cons t ts => by simp only [DRs, Tys.dflt, zerosV]; exact ⟨_, _, rfl, dflt_sound t, dflts_sound ts⟩
end
end

/-! ### Forms -/
mutual
theorem Ty.fits_explode : ∀ (T : Ty) (x : T.den), T.fits (explode T x) = true
  | .int _, _ => rfl | .bool, _ => rfl | .str, _ => rfl | .slice _, _ => rfl
  | .struct fs, x => by simpa only [explode, Ty.fits] using Tys.fits_explodes fs x
theorem Tys.fits_explodes : ∀ (T : Tys) (x : T.den), T.fits (explodes T x) = true
  | .nil, _ => rfl
  | .cons t ts, x => by simp only [explodes, Tys.fits, Bool.and_eq_true]; exact ⟨Ty.fits_explode t x.1, Tys.fits_explodes ts x.2⟩
end
mutual
theorem Ty.fits_zero : ∀ (T : Ty), T.fits (zeroOf T) = true
  | .int _ => rfl | .bool => rfl | .str => rfl | .slice _ => rfl
  | .struct fs => by simpa only [zeroOf, Ty.fits] using Tys.fits_zero fs
theorem Tys.fits_zero : ∀ (T : Tys), T.fits (zerosOf T) = true
  | .nil => rfl
  | .cons t ts => by simp only [zerosOf, Tys.fits, Bool.and_eq_true]; exact ⟨Ty.fits_zero t, Tys.fits_zero ts⟩
end
mutual
theorem TD.fits_zero : ∀ (d : TD), d.fits d.zero = true
  | .data T => by simpa only [TD.zero, TD.fits] using Ty.fits_zero T
  | .cell k => rfl
  | .agg l => by simpa only [TD.zero, TD.fits] using TDs.fits_zero l
theorem TDs.fits_zero : ∀ (d : TDs), d.fits d.zero = true
  | .nil => rfl
  | .cons d l => by simp only [TDs.zero, TDs.fits, Bool.and_eq_true]; exact ⟨TD.fits_zero d, TDs.fits_zero l⟩
end
theorem Ty.fits_agg {T : Ty} {v : PV} (h : T.fits v = true) : v.isAgg = T.isAgg := by
  cases T <;> cases v <;> simp_all [Ty.fits, PV.isAgg, Ty.isAgg]
theorem TD.fits_agg {d : TD} {v : PV} (h : d.fits v = true) : v.isAgg = d.isAgg := by
  cases d with
  | data T => simp only [TD.fits] at h; simpa [TD.isAgg] using Ty.fits_agg h
  | cell k => simpa [TD.fits, TD.isAgg] using h
  | agg l => cases v <;> simp_all [TD.fits, PV.isAgg, TD.isAgg]
section
variable {w : World} {A : Nat → Prop} {ob : Nat → OB} {μ : Nat → Value}
theorem CR.len_one {v : PV} {cs : List Value} (h : CR w A ob μ v cs) (hv : v.isAgg = false) : cs.length = 1 := by
  cases v <;> simp only [CR] at h <;> first
    | (subst h; rfl)
    | (rw [h.1]; rfl)
    | (obtain ⟨_, rfl, _⟩ := h; rfl)
    | exact h
    | (cases hv; done)
    | (simp only [DR] at h; obtain ⟨_, _, rfl, _⟩ := h; rfl)
    | (obtain ⟨_, _, _, rfl, _⟩ := h; rfl)
mutual
theorem Ty.fits_len : ∀ (T : Ty) (v : PV) (cs : List Value), T.fits v = true → CR w A ob μ v cs → cs.length = T.cells
  | .int k, v, cs, h, hc => hc.len_one (Ty.fits_agg h)
  | .bool, v, cs, h, hc => hc.len_one (Ty.fits_agg h)
  | .str, v, cs, h, hc => hc.len_one (Ty.fits_agg h)
  | .slice T, v, cs, h, hc => hc.len_one (Ty.fits_agg h)
  | .struct fs, .agg l, cs, h, hc => by
    simp only [Ty.fits] at h; simp only [CR] at hc
    simpa only [Ty.cells] using Tys.fits_len fs l cs h hc
theorem Tys.fits_len : ∀ (T : Tys) (v : List PV) (cs : List Value), T.fits v = true → CRs w A ob μ v cs → cs.length = T.cells
  | .nil, [], cs, h, hc => by simp only [CRs] at hc; subst hc; rfl
  | .cons t ts, v :: l, cs, h, hc => by
    simp only [Tys.fits, Bool.and_eq_true] at h; simp only [CRs] at hc
    obtain ⟨c1, c2, rfl, h1, h2⟩ := hc
    simp [Tys.cells, Ty.fits_len t v c1 h.1 h1, Tys.fits_len ts l c2 h.2 h2]
end
mutual
theorem TD.fits_len : ∀ (T : TD) (v : PV) (cs : List Value), T.fits v = true → CR w A ob μ v cs → cs.length = T.cells
  | .data T, v, cs, h, hc => by simp only [TD.fits] at h; simpa only [TD.cells] using Ty.fits_len T v cs h hc
  | .cell k, v, cs, h, hc => hc.len_one (TD.fits_agg h)
  | .agg fs, .agg l, cs, h, hc => by
    simp only [TD.fits] at h; simp only [CR] at hc
    simpa only [TD.cells] using TDs.fits_len fs l cs h hc
theorem TDs.fits_len : ∀ (T : TDs) (v : List PV) (cs : List Value), T.fits v = true → CRs w A ob μ v cs → cs.length = T.cells
  | .nil, [], cs, h, hc => by simp only [CRs] at hc; subst hc; rfl
  | .cons t ts, v :: l, cs, h, hc => by
    simp only [TDs.fits, Bool.and_eq_true] at h; simp only [CRs] at hc
    obtain ⟨c1, c2, rfl, h1, h2⟩ := hc
    simp [TDs.cells, TD.fits_len t v c1 h.1 h1, TDs.fits_len ts l c2 h.2 h2]
end
end
/-! ### Parts -/
theorem LiesAt.sub {w : World} {b off : Nat} {cs : List Value} (h : LiesAt w b off cs) (k n : Nat) : LiesAt w b (off + k) ((cs.drop k).take n) := by
  intro j v hj
  rw [List.getElem?_take] at hj
  split at hj
  · rw [List.getElem?_drop] at hj
    have := h (k + j) v hj
    rwa [← Nat.add_assoc] at this
  · cases hj
section
variable {w : World} {A : Nat → Prop} {ob : Nat → OB} {μ : Nat → Value}
/-- a part of plain data: its value, its cells -/
theorem DRs.split {ts : Tys} {t : Ty} {x : (Tys.cons t ts).den} {cs : List Value} (h : DRs w A (.cons t ts) x cs) :
    DR w A t x.1 (cs.take t.cells) ∧ DRs w A ts x.2 (cs.drop t.cells) := by
  simp only [DRs] at h
  obtain ⟨c1, c2, rfl, h1, h2⟩ := h
  have hl := DR.len t _ _ h1
  rw [List.take_left' hl, List.drop_left' hl]
  exact ⟨h1, h2⟩
mutual
theorem getT_sound : ∀ (T : Ty) (p : List Nat) (x : T.den) (v : PV) (cs : List Value), getT T p x = some v → DR w A T x cs →
    ∃ off T', T.off p = some (off, T') ∧ CR w A ob μ v ((cs.drop off).take T'.cells) ∧ T'.fits v = true ∧ off + T'.cells ≤ T.cells
  | T, [], x, v, cs, h, hd => by
    cases T <;> (simp only [getT, Option.some.injEq] at h; subst h; refine ⟨0, _, by simp only [Ty.off], ?_, Ty.fits_explode _ _, by omega⟩; rw [List.drop_zero, List.take_of_length_le (Nat.le_of_eq (DR.len _ _ _ hd))]; exact explode_sound _ _ _ hd)
  | .struct fs, i :: p, x, v, cs, h, hd => by
    simp only [getT] at h
    simp only [DR] at hd
    obtain ⟨off, T', h1, h2, h3, h4⟩ := getTs_sound fs i p x v cs h hd
    exact ⟨off, T', by simp only [Ty.off, h1], h2, h3, by simpa only [Ty.cells] using h4⟩
  | .int _, _ :: _, x, v, cs, h, hd => by simp [getT] at h
  | .bool, _ :: _, x, v, cs, h, hd => by simp [getT] at h
  | .str, _ :: _, x, v, cs, h, hd => by simp [getT] at h
  | .slice _, _ :: _, x, v, cs, h, hd => by simp [getT] at h
theorem getTs_sound : ∀ (fs : Tys) (i : Nat) (p : List Nat) (x : fs.den) (v : PV) (cs : List Value), getT.go fs i p x = some v → DRs w A fs x cs →
    ∃ off T', Ty.off.go fs i p = some (off, T') ∧ CR w A ob μ v ((cs.drop off).take T'.cells) ∧ T'.fits v = true ∧ off + T'.cells ≤ fs.cells
  | .nil, _, _, x, v, cs, h, hd => by simp [getT.go] at h
  | .cons t ts, 0, p, x, v, cs, h, hd => by
    simp only [getT.go] at h
    obtain ⟨off, T', h1, h2, h3, h4⟩ := getT_sound t p x.1 v _ h hd.split.1
    refine ⟨off, T', by simp only [Ty.off.go, h1], ?_, h3, by simp only [Tys.cells]; omega⟩
    rw [List.drop_take, List.take_take] at h2
    rwa [show min T'.cells (t.cells - off) = T'.cells from by omega] at h2
  | .cons t ts, n + 1, p, x, v, cs, h, hd => by
    simp only [getT.go] at h
    obtain ⟨off, T', h1, h2, h3, h4⟩ := getTs_sound ts n p x.2 v _ h hd.split.2
    refine ⟨t.cells + off, T', by simp only [Ty.off.go, h1, Option.map_some], ?_, h3, by simp only [Tys.cells]; omega⟩
    rwa [List.drop_drop] at h2
end

def splice (cs : List Value) (off : Nat) (cv : List Value) : List Value := cs.take off ++ (cv ++ cs.drop (off + cv.length))
theorem splice_whole {cs cv : List Value} (h : cs.length = cv.length) : splice cs 0 cv = cv := by
  simp [splice, List.drop_of_length_le (Nat.le_of_eq h)]
theorem splice_len {cs cv : List Value} {off : Nat} (h : off + cv.length ≤ cs.length) : (splice cs off cv).length = cs.length := by
  simp [splice]; omega
theorem splice_head {c1 c2 cv : List Value} {off : Nat} (h : off + cv.length ≤ c1.length) : splice (c1 ++ c2) off cv = splice c1 off cv ++ c2 := by
  simp only [splice, List.append_assoc]
  rw [List.take_append_of_le_length (by omega), List.drop_append_of_le_length h]
theorem splice_tail {c1 c2 cv : List Value} {off : Nat} : splice (c1 ++ c2) (c1.length + off) cv = c1 ++ splice c2 off cv := by
  simp only [splice]
  rw [List.take_length_add_append, Nat.add_assoc, List.drop_length_add_append, List.append_assoc]
mutual
theorem setT_sound : ∀ (T : Ty) (p : List Nat) (x : T.den) (v : PV) (y : T.den) (cs cv : List Value), setT T p x v = some y → DR w A T x cs → CR w A ob μ v cv →
    ∃ off T', T.off p = some (off, T') ∧ off + cv.length ≤ T.cells ∧ cv.length = T'.cells ∧ DR w A T y (splice cs off cv)
  | T, [], x, v, y, cs, cv, h, hd, hv => by
    cases T <;> (simp only [setT] at h; have hy := implode_sound _ _ _ _ h hv; refine ⟨0, _, by simp only [Ty.off], by rw [DR.len _ _ _ hy]; omega, DR.len _ _ _ hy, ?_⟩; rw [splice_whole (by rw [DR.len _ _ _ hd, DR.len _ _ _ hy])]; exact hy)
  | .struct fs, i :: p, x, v, y, cs, cv, h, hd, hv => by
    simp only [setT] at h
    simp only [DR] at hd
    obtain ⟨off, T', h1, h2, h3, h4⟩ := setTs_sound fs i p x v y cs cv h hd hv
    exact ⟨off, T', by simp only [Ty.off, h1], by simpa only [Ty.cells] using h2, h3, by simpa only [DR] using h4⟩
  | .int _, _ :: _, x, v, y, cs, cv, h, hd, hv => by simp [setT] at h
  | .bool, _ :: _, x, v, y, cs, cv, h, hd, hv => by simp [setT] at h
  | .str, _ :: _, x, v, y, cs, cv, h, hd, hv => by simp [setT] at h
  | .slice _, _ :: _, x, v, y, cs, cv, h, hd, hv => by simp [setT] at h
theorem setTs_sound : ∀ (fs : Tys) (i : Nat) (p : List Nat) (x : fs.den) (v : PV) (y : fs.den) (cs cv : List Value), setT.go fs i p x v = some y → DRs w A fs x cs → CR w A ob μ v cv →
    ∃ off T', Ty.off.go fs i p = some (off, T') ∧ off + cv.length ≤ fs.cells ∧ cv.length = T'.cells ∧ DRs w A fs y (splice cs off cv)
  | .nil, _, _, x, v, y, cs, cv, h, hd, hv => by simp [setT.go] at h
  | .cons t ts, 0, p, x, v, y, cs, cv, h, hd, hv => by
    simp only [setT.go] at h
    obtain ⟨z, hz, rfl⟩ := Option.map_eq_some_iff.1 h
    simp only [DRs] at hd
    obtain ⟨c1, c2, rfl, hd1, hd2⟩ := hd
    obtain ⟨off, T', h1, h2, h3, h4⟩ := setT_sound t p x.1 v z c1 cv hz hd1 hv
    refine ⟨off, T', by simp only [Ty.off.go, h1], by simp only [Tys.cells]; omega, h3, ?_⟩
    simp only [DRs]
    exact ⟨_, c2, splice_head (by rw [DR.len _ _ _ hd1]; exact h2), h4, hd2⟩
  | .cons t ts, n + 1, p, x, v, y, cs, cv, h, hd, hv => by
    simp only [setT.go] at h
    obtain ⟨z, hz, rfl⟩ := Option.map_eq_some_iff.1 h
    simp only [DRs] at hd
    obtain ⟨c1, c2, rfl, hd1, hd2⟩ := hd
    obtain ⟨off, T', h1, h2, h3, h4⟩ := setTs_sound ts n p x.2 v z c2 cv hz hd2 hv
    refine ⟨t.cells + off, T', by simp only [Ty.off.go, h1, Option.map_some], by simp only [Tys.cells]; omega, h3, ?_⟩
    simp only [DRs]
    exact ⟨c1, _, by rw [← DR.len _ _ _ hd1, splice_tail], hd1, h4⟩
end
mutual
theorem Ty.path_sound : ∀ (T : Ty) (p : List Nat) (v : PV) (cs : List Value) (off : Nat) (T' : Ty), T.fits v = true → CR w A ob μ v cs → T.off p = some (off, T') →
    CR w A ob μ (getPath v p) ((cs.drop off).take T'.cells) ∧ T'.fits (getPath v p) = true ∧ off + T'.cells ≤ T.cells ∧
    ∀ x cx, T'.fits x = true → CR w A ob μ x cx → CR w A ob μ (setPath v p x) (splice cs off cx) ∧ T.fits (setPath v p x) = true
  | T, [], v, cs, off, T', hf, hc, h => by
    have : off = 0 ∧ T = T' := by cases T <;> (simp only [Ty.off, Option.some.injEq, Prod.mk.injEq] at h; exact ⟨h.1.symm, h.2⟩)
    obtain ⟨rfl, rfl⟩ := this
    have hl := Ty.fits_len T v cs hf hc
    refine ⟨by rw [List.drop_zero, List.take_of_length_le (by omega)]; cases v <;> simpa only [getPath] using hc, by cases v <;> simpa only [getPath] using hf, by omega, fun x cx hx hcx => ?_⟩
    have hlx := Ty.fits_len T x cx hx hcx
    rw [splice_whole (by omega)]
    exact ⟨by cases v <;> simpa only [setPath] using hcx, by cases v <;> simpa only [setPath] using hx⟩
  | .struct fs, i :: p, .agg l, cs, off, T', hf, hc, h => by
    simp only [Ty.off] at h
    simp only [Ty.fits] at hf
    simp only [CR] at hc
    obtain ⟨h1, h2, h3, h4⟩ := Tys.path_sound fs i p l cs off T' hf hc h
    refine ⟨by simpa only [getPath] using h1, by simpa only [getPath] using h2, by simpa only [Ty.cells] using h3, fun x cx hx hcx => ?_⟩
    obtain ⟨h5, h6⟩ := h4 x cx hx hcx
    exact ⟨by simpa only [setPath, CR] using h5, by simpa only [setPath, Ty.fits] using h6⟩
  | .int _, _ :: _, v, cs, off, T', hf, hc, h => by simp [Ty.off] at h
  | .bool, _ :: _, v, cs, off, T', hf, hc, h => by simp [Ty.off] at h
  | .str, _ :: _, v, cs, off, T', hf, hc, h => by simp [Ty.off] at h
  | .slice _, _ :: _, v, cs, off, T', hf, hc, h => by simp [Ty.off] at h
theorem Tys.path_sound : ∀ (T : Tys) (i : Nat) (p : List Nat) (l : List PV) (cs : List Value) (off : Nat) (T' : Ty), T.fits l = true → CRs w A ob μ l cs → Ty.off.go T i p = some (off, T') →
    CR w A ob μ (getPath (l.getD i .any) p) ((cs.drop off).take T'.cells) ∧ T'.fits (getPath (l.getD i .any) p) = true ∧ off + T'.cells ≤ T.cells ∧
    ∀ x cx, T'.fits x = true → CR w A ob μ x cx → CRs w A ob μ (l.set i (setPath (l.getD i .any) p x)) (splice cs off cx) ∧ T.fits (l.set i (setPath (l.getD i .any) p x)) = true
  | .nil, i, p, l, cs, off, T', hf, hc, h => by simp [Ty.off.go] at h
  | .cons t ts, 0, p, [], cs, off, T', hf, hc, h => by simp [Tys.fits] at hf
  | .cons t ts, 0, p, v :: l, cs, off, T', hf, hc, h => by
    simp only [Ty.off.go] at h
    simp only [Tys.fits, Bool.and_eq_true] at hf
    simp only [CRs] at hc
    obtain ⟨c1, c2, rfl, hc1, hc2⟩ := hc
    have hl := Ty.fits_len t v c1 hf.1 hc1
    obtain ⟨h1, h2, h3, h4⟩ := Ty.path_sound t p v c1 off T' hf.1 hc1 h
    refine ⟨?_, h2, by simp only [Tys.cells]; omega, fun x cx hx hcx => ?_⟩
    · show CR w A ob μ (getPath v p) _
      rw [List.drop_append_of_le_length (by omega), List.take_append_of_le_length (by simp; omega)]
      exact h1
    · obtain ⟨h5, h6⟩ := h4 x cx hx hcx
      have hlx := Ty.fits_len T' x cx hx hcx
      refine ⟨?_, ?_⟩
      · show CRs w A ob μ (setPath v p x :: l) _
        simp only [CRs]
        exact ⟨_, c2, splice_head (by omega), h5, hc2⟩
      · show Tys.fits (.cons t ts) (setPath v p x :: l) = true
        simp only [Tys.fits, Bool.and_eq_true]
        exact ⟨h6, hf.2⟩
  | .cons t ts, n + 1, p, [], cs, off, T', hf, hc, h => by simp [Tys.fits] at hf
  | .cons t ts, n + 1, p, v :: l, cs, off, T', hf, hc, h => by
    simp only [Ty.off.go, Option.map_eq_some_iff] at h
    obtain ⟨⟨off', T''⟩, h, e⟩ := h
    simp only [Prod.mk.injEq] at e
    obtain ⟨rfl, rfl⟩ := e
    simp only [Tys.fits, Bool.and_eq_true] at hf
    simp only [CRs] at hc
    obtain ⟨c1, c2, rfl, hc1, hc2⟩ := hc
    have hl := Ty.fits_len t v c1 hf.1 hc1
    obtain ⟨h1, h2, h3, h4⟩ := Tys.path_sound ts n p l c2 off' T'' hf.2 hc2 h
    refine ⟨?_, h2, by simp only [Tys.cells]; omega, fun x cx hx hcx => ?_⟩
    · show CR w A ob μ (getPath (l.getD n .any) p) _
      rw [← hl, List.drop_length_add_append]
      exact h1
    · obtain ⟨h5, h6⟩ := h4 x cx hx hcx
      refine ⟨?_, ?_⟩
      · show CRs w A ob μ (v :: l.set n (setPath (l.getD n .any) p x)) _
        simp only [CRs]
        exact ⟨c1, _, by rw [← hl, splice_tail], hc1, h5⟩
      · show Tys.fits (.cons t ts) (v :: l.set n (setPath (l.getD n .any) p x)) = true
        simp only [Tys.fits, Bool.and_eq_true]
        exact ⟨hf.1, h6⟩
end
mutual
theorem TD.path_sound : ∀ (T : TD) (p : List Nat) (v : PV) (cs : List Value) (off : Nat) (T' : TD), T.fits v = true → CR w A ob μ v cs → T.off p = some (off, T') →
    CR w A ob μ (getPath v p) ((cs.drop off).take T'.cells) ∧ T'.fits (getPath v p) = true ∧ off + T'.cells ≤ T.cells ∧
    ∀ x cx, T'.fits x = true → CR w A ob μ x cx → CR w A ob μ (setPath v p x) (splice cs off cx) ∧ T.fits (setPath v p x) = true
  | T, [], v, cs, off, T', hf, hc, h => by
    have : off = 0 ∧ T = T' := by cases T <;> (simp only [TD.off, Option.some.injEq, Prod.mk.injEq] at h; exact ⟨h.1.symm, h.2⟩)
    obtain ⟨rfl, rfl⟩ := this
    have hl := TD.fits_len T v cs hf hc
    refine ⟨by rw [List.drop_zero, List.take_of_length_le (by omega)]; cases v <;> simpa only [getPath] using hc, by cases v <;> simpa only [getPath] using hf, by omega, fun x cx hx hcx => ?_⟩
    have hlx := TD.fits_len T x cx hx hcx
    rw [splice_whole (by omega)]
    exact ⟨by cases v <;> simpa only [setPath] using hcx, by cases v <;> simpa only [setPath] using hx⟩
  | .data T, i :: p, v, cs, off, T', hf, hc, h => by
    simp only [TD.off, Option.map_eq_some_iff] at h
    obtain ⟨⟨off', T''⟩, h, e⟩ := h
    simp only [Prod.mk.injEq] at e
    obtain ⟨rfl, rfl⟩ := e
    simp only [TD.fits] at hf ⊢
    simp only [TD.cells]
    exact Ty.path_sound T (i :: p) v cs off' T'' hf hc h
  | .agg fs, i :: p, .agg l, cs, off, T', hf, hc, h => by
    simp only [TD.off] at h
    simp only [TD.fits] at hf
    simp only [CR] at hc
    obtain ⟨h1, h2, h3, h4⟩ := TDs.path_sound fs i p l cs off T' hf hc h
    refine ⟨by simpa only [getPath] using h1, by simpa only [getPath] using h2, by simpa only [TD.cells] using h3, fun x cx hx hcx => ?_⟩
    obtain ⟨h5, h6⟩ := h4 x cx hx hcx
    exact ⟨by simpa only [setPath, CR] using h5, by simpa only [setPath, TD.fits] using h6⟩
  | .cell _, _ :: _, v, cs, off, T', hf, hc, h => by simp [TD.off] at h
theorem TDs.path_sound : ∀ (T : TDs) (i : Nat) (p : List Nat) (l : List PV) (cs : List Value) (off : Nat) (T' : TD), T.fits l = true → CRs w A ob μ l cs → TD.off.go T i p = some (off, T') →
    CR w A ob μ (getPath (l.getD i .any) p) ((cs.drop off).take T'.cells) ∧ T'.fits (getPath (l.getD i .any) p) = true ∧ off + T'.cells ≤ T.cells ∧
    ∀ x cx, T'.fits x = true → CR w A ob μ x cx → CRs w A ob μ (l.set i (setPath (l.getD i .any) p x)) (splice cs off cx) ∧ T.fits (l.set i (setPath (l.getD i .any) p x)) = true
  | .nil, i, p, l, cs, off, T', hf, hc, h => by simp [TD.off.go] at h
  | .cons t ts, 0, p, [], cs, off, T', hf, hc, h => by simp [TDs.fits] at hf
  | .cons t ts, 0, p, v :: l, cs, off, T', hf, hc, h => by
    simp only [TD.off.go] at h
    simp only [TDs.fits, Bool.and_eq_true] at hf
    simp only [CRs] at hc
    obtain ⟨c1, c2, rfl, hc1, hc2⟩ := hc
    have hl := TD.fits_len t v c1 hf.1 hc1
    obtain ⟨h1, h2, h3, h4⟩ := TD.path_sound t p v c1 off T' hf.1 hc1 h
    refine ⟨?_, h2, by simp only [TDs.cells]; omega, fun x cx hx hcx => ?_⟩
    · show CR w A ob μ (getPath v p) _
      rw [List.drop_append_of_le_length (by omega), List.take_append_of_le_length (by simp; omega)]
      exact h1
    · obtain ⟨h5, h6⟩ := h4 x cx hx hcx
      have hlx := TD.fits_len T' x cx hx hcx
      refine ⟨?_, ?_⟩
      · show CRs w A ob μ (setPath v p x :: l) _
        simp only [CRs]
        exact ⟨_, c2, splice_head (by omega), h5, hc2⟩
      · show TDs.fits (.cons t ts) (setPath v p x :: l) = true
        simp only [TDs.fits, Bool.and_eq_true]
        exact ⟨h6, hf.2⟩
  | .cons t ts, n + 1, p, [], cs, off, T', hf, hc, h => by simp [TDs.fits] at hf
  | .cons t ts, n + 1, p, v :: l, cs, off, T', hf, hc, h => by
    simp only [TD.off.go, Option.map_eq_some_iff] at h
    obtain ⟨⟨off', T''⟩, h, e⟩ := h
    simp only [Prod.mk.injEq] at e
    obtain ⟨rfl, rfl⟩ := e
    simp only [TDs.fits, Bool.and_eq_true] at hf
    simp only [CRs] at hc
    obtain ⟨c1, c2, rfl, hc1, hc2⟩ := hc
    have hl := TD.fits_len t v c1 hf.1 hc1
    obtain ⟨h1, h2, h3, h4⟩ := TDs.path_sound ts n p l c2 off' T'' hf.2 hc2 h
    refine ⟨?_, h2, by simp only [TDs.cells]; omega, fun x cx hx hcx => ?_⟩
    · show CR w A ob μ (getPath (l.getD n .any) p) _
      rw [← hl, List.drop_length_add_append]
      exact h1
    · obtain ⟨h5, h6⟩ := h4 x cx hx hcx
      refine ⟨?_, ?_⟩
      · show CRs w A ob μ (v :: l.set n (setPath (l.getD n .any) p x)) _
        simp only [CRs]
        exact ⟨c1, _, by rw [← hl, splice_tail], hc1, h5⟩
      · show TDs.fits (.cons t ts) (v :: l.set n (setPath (l.getD n .any) p x)) = true
        simp only [TDs.fits, Bool.and_eq_true]
        exact ⟨hf.1, h6⟩
end
end
end Go.Vm
