/- DeedsMerge: cars that are there, rides that are asked for: maps. Own work. -/
import Derived.Test.YtfiembgemhonlaaDSpecD
import Derived.Test.YtfiembgemhonlaaVmQ
set_option linter.unusedVariables false
set_option linter.unusedSimpArgs false
namespace Go.Vm
open Go.RowKit Go.Vm.Gain
/-! ### ranges that collect -/
theorem range_collect {α β : Type} {f : List α → α → ((List β × Unit) × Unit) → Option (((List β × Unit) × Unit) ⊕ ((List β × Unit) × Unit))} {fin : List α → ((List β × Unit) × Unit) → Option (((List β × Unit) × Unit) ⊕ ((List β × Unit) × Unit))} (sel : α → Option β)
    (hf : ∀ D e (ys : List β), ys.length < 4294967296 → f D e ((ys, ()), ()) = some (.inl ((ys ++ (sel e).toList, ()), ()))) (hfin : ∀ D (ys : List β), fin D ((ys, ()), ()) = some (.inr ((ys, ()), ()))) :
    ∀ (l D : List α) (ys : List β), l.length + ys.length ≤ 4294967296 → rangeM f fin l D ((ys, ()), ()) = some ((ys ++ l.filterMap sel, ()), ())
  | [], D, ys, _ => by simp [rangeM, hfin]
  | e :: l, D, ys, h => by
    simp only [List.length_cons] at h
    have hlen : (sel e).toList.length ≤ 1 := by cases sel e <;> simp
    simp only [rangeM, hf D e ys (by omega), Option.bind_some]
    rw [range_collect sel hf hfin l (D ++ [e]) _ (by rw [List.length_append]; omega)]
    cases hs : sel e <;> simp [List.filterMap_cons, hs]
/-! ### what a map holds, by its values -/
section
variable {κ ν : Type} {eq : κ → κ → Bool}
structure MInv (key : ν → κ) (src : List ν) (n : Nat) (c : List (κ × ν × Nat) × Nat) : Prop where
  nd : (mkeys c.1).Nodup
  key : ∀ e ∈ c.1, key e.2.1 = e.1
  src : ∀ e ∈ c.1, e.2.1 ∈ src
  len : c.1.length ≤ n
theorem mrep_mem (heq : ∀ a b, eq a b = true ↔ a = b) (k : κ) (v : ν) : ∀ (l : List (κ × ν × Nat)) (e : κ × ν × Nat), e ∈ mrep eq k v l → (e.1 = k ∧ e.2.1 = v) ∨ e ∈ l
  | [], e, h => by cases h
  | x :: l, e, h => by
    simp only [mrep] at h
    cases hx : eq k x.1 <;> rw [hx] at h
    · rcases List.mem_cons.1 h with rfl | h
      · exact .inr (by simp)
      · exact (mrep_mem heq k v l e h).imp id (fun h => by simp [h])
    · rcases List.mem_cons.1 h with rfl | h
      · exact .inl ⟨((heq _ _).1 hx).symm, rfl⟩
      · exact .inr (by simp [h])
theorem mrep_len (k : κ) (v : ν) : ∀ (l : List (κ × ν × Nat)), (mrep eq k v l).length = l.length
  | [] => rfl
  | x :: l => by
    simp only [mrep]
    cases eq k x.1 <;> simp [mrep_len k v l]
theorem mput_mem (heq : ∀ a b, eq a b = true ↔ a = b) (k : κ) (v : ν) (c : List (κ × ν × Nat) × Nat) (e : κ × ν × Nat) (h : e ∈ (mput eq k v c).1) : (e.1 = k ∧ e.2.1 = v) ∨ e ∈ c.1 := by
  unfold mput at h
  cases h1 : mhas eq k c.1 <;> rw [h1] at h
  · rcases List.mem_append.1 h with h | h
    · exact .inr h
    · simp only [List.mem_singleton] at h
      subst h
      exact .inl ⟨rfl, rfl⟩
  · exact mrep_mem heq k v c.1 e h
theorem mput_len (k : κ) (v : ν) (c : List (κ × ν × Nat) × Nat) : (mput eq k v c).1.length ≤ c.1.length + 1 := by
  unfold mput
  cases mhas eq k c.1
  · simp
  · simp [mrep_len]
theorem MInv.put (heq : ∀ a b, eq a b = true ↔ a = b) {key : ν → κ} {src : List ν} {n : Nat} {c : List (κ × ν × Nat) × Nat} (h : MInv key src n c) {v : ν} (hv : v ∈ src) : MInv key src (n + 1) (mput eq (key v) v c) := by
  refine ⟨keys_mput heq _ _ _ h.nd, fun e he => ?_, fun e he => ?_, ?_⟩
  · rcases mput_mem heq _ _ _ e he with ⟨h1, h2⟩ | h1
    · rw [h1, h2]
    · exact h.key e h1
  · rcases mput_mem heq _ _ _ e he with ⟨h1, h2⟩ | h1
    · rw [h2]; exact hv
    · exact h.src e h1
  · have := mput_len (eq := eq) (key v) v c
    have := h.len
    omega
theorem MInv.del (heq : ∀ a b, eq a b = true ↔ a = b) {key : ν → κ} {src : List ν} {n : Nat} {c : List (κ × ν × Nat) × Nat} (h : MInv key src n c) (k : κ) : MInv key src (n + 1) (mdel eq k c.1, c.2) := by
  have hs := mdel_sub eq k c.1
  exact ⟨keys_mdel _ _ h.nd, fun e he => h.key e (hs.subset he), fun e he => h.src e (hs.subset he), by have := hs.length_le; have := h.len; simp only; omega⟩
theorem MInv.more {key : ν → κ} {src : List ν} {n : Nat} {c : List (κ × ν × Nat) × Nat} (h : MInv key src n c) : MInv key src (n + 1) c := ⟨h.nd, h.key, h.src, Nat.le_succ_of_le h.len⟩
theorem MInv.empty (key : ν → κ) (src : List ν) : MInv key src 0 ([], 0) := ⟨by simp, fun e h => (by cases h), fun e h => (by cases h), Nat.le_refl _⟩
end
/-- a sort: the order in which things come is of no account, where the comparison tells them apart -/
theorem sortF_perm {T : Ty} {c1 c2 : T.den → T.den → Int} {xs ys : List T.den} (hp : xs.Perm ys) (hw : ∀ x ∈ xs, WF T x) (hl : xs.length < 4611686018427387904) (h : CmpOK c1 (· ∈ xs)) (hc : ∀ a ∈ xs, ∀ b ∈ xs, c2 a b = c1 a b) (ha : ∀ a ∈ xs, ∀ b ∈ xs, c1 a b = 0 → a = b) :
    sortF T c2 ys = sortF T c1 xs := by
  have hm : ∀ y, y ∈ ys ↔ y ∈ xs := fun y => hp.mem_iff.symm
  obtain ⟨zs, h1, h2, h3⟩ := sortF_total hw hl h
  obtain ⟨us, k1, k2, k3⟩ := sortF_total (xs := ys) (cmp := c2) (fun x hx => hw x ((hm x).1 hx)) (by rw [← hp.length_eq]; exact hl)
    ((h.mono (fun a ha => (hm a).1 ha)).congr (fun a b ha hb => hc a ((hm a).1 ha) b ((hm b).1 hb)))
  rw [h1, k1]
  have hus : ∀ u ∈ us, u ∈ xs := fun u hu => (hm u).1 (k2.mem_iff.1 hu)
  have hzs : ∀ u ∈ zs, u ∈ xs := fun u hu => h2.mem_iff.1 hu
  congr 1
  refine (sorted_unique (r := fun a b => c1 a b ≤ 0) (h2.trans (hp.trans k2.symm)) (fun a ha' b hb' g1 g2 => ?_) h3 ?_).symm
  · have := (h.flip_le (hzs a ha') (hzs b hb')).1 g1
    have := (h.flip_le (hzs b hb') (hzs a ha')).1 g2
    exact ha a (hzs a ha') b (hzs b hb') (by omega)
  · exact List.Pairwise.imp_of_mem (fun {a b} ha hb hab => by rw [← hc a (hus a ha) b (hus b hb)]; exact hab) k3
theorem wf_all {T : Ty} {xs : List T.den} (h : WF (.slice T) xs) : ∀ x ∈ xs, WF T x := fun x hx => by
  simp only [WF] at h
  obtain ⟨i, hi, rfl⟩ := List.mem_iff_getElem.1 hx
  exact h.2 i _ (List.getElem?_eq_getElem hi)
/-! ### keys of strings -/
def strEq (a b : ByteArray) : Bool := keq .str a b
theorem str_iff (a b : ByteArray) : strEq a b = true ↔ a = b := sEq_iff
/-! ### of what a deed tells -/
def sCar : ByteArray := ByteArray.mk #[99, 97, 114, 32]
def sRide : ByteArray := ByteArray.mk #[114, 105, 100, 101, 32]
def about (d : Dd) : ByteArray := bif dKind d == 1 then sCar ++ (dCar d).1 else bif dKind d == 2 then sCar ++ dKey d else bif dKind d == 3 then sRide ++ (dRide d).1 else sRide ++ dKey d
def s233 (d : Dd) : Option (ByteArray × Unit) := if (about d).size < 4611686018427387904 then some (about d, ()) else none
theorem h233 (d : Dd) (y : ByteArray × Unit) (hw : WFs A233 (d, ())) (h : s233 d = some y) : ∃ k, f233 k d = some y := ⟨0, by
  unfold s233 at h
  split at h
  rotate_left
  · cases h
  rename_i hs
  cases h
  unfold f233
  unfold about at hs ⊢
  show (bif dKind d == 1 then _ else bif dKind d == 2 then _ else bif dKind d == 3 then _ else _) = _
  cases h1 : dKind d == 1
  · cases h2 : dKind d == 2
    · cases h3 : dKind d == 3
      · simp only [h1, h2, h3, cond_false, ByteArray.size_append] at hs
        simp only [cond_false]
        rw [show decide (ByteArray.size (ByteArray.mk #[114, 105, 100, 101, 32]) + ByteArray.size d.2.2.2.2.1 < 4611686018427387904) = true from decide_eq_true hs]
        rfl
      · simp only [h1, h2, h3, cond_false, cond_true, ByteArray.size_append] at hs
        simp only [cond_false, cond_true]
        rw [show decide (ByteArray.size (ByteArray.mk #[114, 105, 100, 101, 32]) + ByteArray.size d.2.2.2.2.2.2.2.1.1 < 4611686018427387904) = true from decide_eq_true hs]
        rfl
    · simp only [h1, h2, cond_false, cond_true, ByteArray.size_append] at hs
      simp only [cond_false, cond_true]
      rw [show decide (ByteArray.size (ByteArray.mk #[99, 97, 114, 32]) + ByteArray.size d.2.2.2.2.1 < 4611686018427387904) = true from decide_eq_true hs]
      rfl
  · simp only [h1, cond_true, ByteArray.size_append] at hs
    simp only [cond_true]
    rw [show decide (ByteArray.size (ByteArray.mk #[99, 97, 114, 32]) + ByteArray.size d.2.2.2.2.2.2.1.1 < 4611686018427387904) = true from decide_eq_true hs]
    rfl⟩
def s234 (a b : Dd) : Option (Int × Unit) := (s233 a).bind fun v => (s233 b).bind fun w => some (cmpS v.1 w.1, ())
theorem h234 (a b : Dd) (y : Int × Unit) (hw : WFs A234 (a, b, ())) (h : s234 a b = some y) : ∃ k, f234 s129 s233 k a b = some y := ⟨0, h⟩
theorem key_size {s : ByteArray} (h : key s = true) : s.size ≤ 40 := by
  unfold key keyL at h
  simp only [Bool.and_eq_true, decide_eq_true_eq] at h
  rw [size_list]
  omega
theorem about_size {d : Dd} (h : dFault d = 0) : (about d).size ≤ 45 := by
  have hk := (small_of h).2
  unfold dFault at h
  obtain ⟨h1, h⟩ := cond_zero h (by decide)
  obtain ⟨h2, h⟩ := cond_zero h (by decide)
  obtain ⟨h3, h⟩ := cond_zero h (by decide)
  obtain ⟨h4, h⟩ := cond_zero h (by decide)
  have ec : sCar.size = 4 := rfl
  have er : sRide.size = 5 := rfl
  unfold about
  cases k1 : dKind d == 1 <;> rw [k1] at h
  · simp only [cond_false] at h ⊢
    cases k3 : dKind d == 3 <;> rw [k3] at h
    · simp only [cond_false] at h ⊢
      obtain ⟨h5, h⟩ := cond_zero h (by decide)
      simp only [Bool.not_eq_false'] at h5
      have := key_size h5
      cases dKind d == 2
      · simp only [cond_false, ByteArray.size_append]; omega
      · simp only [cond_true, ByteArray.size_append]; omega
    · have k2 : (dKind d == 2) = false := by
        simp only [beq_iff_eq] at k3
        rw [k3]; decide
      simp only [cond_true] at h
      simp only [k2, cond_true, cond_false, ByteArray.size_append]
      cases hr : rFault (dRide d) != 0 <;> rw [hr] at h
      · have hr0 : rFault (dRide d) = 0 := by simpa using hr
        unfold rFault at hr0
        obtain ⟨h5, _⟩ := cond_zero hr0 (by decide)
        simp only [Bool.not_eq_false', Bool.and_eq_true] at h5
        have := key_size h5.1
        omega
      · simp only [cond_true] at h
        simp [h] at hr
  · simp only [cond_true] at h ⊢
    obtain ⟨h5, h⟩ := cond_zero h (by decide)
    simp only [Bool.not_eq_false'] at h5
    have := key_size h5
    simp only [ByteArray.size_append]
    omega
theorem s233_some {d : Dd} (h : dFault d = 0) : s233 d = some (about d, ()) := by
  unfold s233
  rw [if_pos (by have := about_size h; omega)]
/-! ### the maps -/
abbrev DMp : Type := List (ByteArray × Dd × Nat) × Nat
abbrev RMp : Type := List (ByteArray × Rd × Nat) × Nat
def carS (at_ : Int) (d : Dd) (c : DMp) : DMp := bif decide (dAt d > at_) then c else bif dKind d == 1 then mput strEq (dCar d).1 d c else bif dKind d == 2 then (mdel strEq (dKey d) c.1, c.2) else c
def askS (at_ : Int) (d : Dd) (c : RMp) : RMp := bif decide (dAt d > at_) then c else bif dKind d == 3 then mput strEq (dRide d).1 (dRide d) c else bif dKind d == 4 then (mdel strEq (dKey d) c.1, c.2) else c
def cntS (at_ : Int) (d : Dd) (c : DMp) : DMp := bif decide (dAt d ≤ at_) then mput strEq (about d) d c else c
def carM (at_ : Int) (l : List Dd) : DMp := l.foldl (fun c d => carS at_ d c) ([], 0)
def askM (at_ : Int) (l : List Dd) : RMp := l.foldl (fun c d => askS at_ d c) ([], 0)
def cntM (at_ : Int) (l : List Dd) : DMp := l.foldl (fun c d => cntS at_ d c) ([], 0)
theorem foldl_inv {α β : Type} {f : β → α → β} (I : Nat → β → Prop) (src : List α) (hs : ∀ n b x, x ∈ src → I n b → I (n + 1) (f b x)) : ∀ (l : List α) (n : Nat) (b : β), (∀ x ∈ l, x ∈ src) → I n b → I (n + l.length) (l.foldl f b)
  | [], n, b, _, h => h
  | x :: l, n, b, hl, h => by
    have := foldl_inv I src hs l (n + 1) (f b x) (fun y hy => hl y (by simp [hy])) (hs n b x (hl x (by simp)) h)
    rw [List.length_cons, show n + (l.length + 1) = n + 1 + l.length from by omega]
    exact this
theorem carM_inv (at_ : Int) (l : List Dd) : MInv (fun d => (dCar d).1) l l.length (carM at_ l) := by
  have := foldl_inv (f := fun c d => carS at_ d c) (fun n c => MInv (fun d => (dCar d).1) l n c) l (fun n c d hd h => by
    unfold carS
    cases decide (dAt d > at_)
    · cases dKind d == 1
      · cases dKind d == 2
        · exact h.more
        · exact h.del str_iff _
      · exact h.put str_iff hd
    · exact h.more) l 0 ([], 0) (fun _ h => h) (MInv.empty _ _)
  rw [Nat.zero_add] at this; exact this
theorem askM_inv (at_ : Int) (l : List Dd) : MInv (fun r : Rd => r.1) (l.map dRide) l.length (askM at_ l) := by
  have := foldl_inv (f := fun c d => askS at_ d c) (fun n c => MInv (fun r : Rd => r.1) (l.map dRide) n c) l (fun n c d hd h => by
    unfold askS
    cases decide (dAt d > at_)
    · cases dKind d == 3
      · cases dKind d == 4
        · exact h.more
        · exact h.del str_iff _
      · exact h.put str_iff (List.mem_map.2 ⟨d, hd, rfl⟩)
    · exact h.more) l 0 ([], 0) (fun _ h => h) (MInv.empty _ _)
  rw [Nat.zero_add] at this; exact this
theorem cntM_inv (at_ : Int) (l : List Dd) : MInv about l l.length (cntM at_ l) := by
  have := foldl_inv (f := fun c d => cntS at_ d c) (fun n c => MInv about l n c) l (fun n c d hd h => by
    unfold cntS
    cases decide (dAt d ≤ at_)
    · exact h.more
    · exact h.put str_iff hd) l 0 ([], 0) (fun _ h => h) (MInv.empty _ _)
  rw [Nat.zero_add] at this; exact this
end Go.Vm
