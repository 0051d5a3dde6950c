/- DeedTexts: package net knows who asks (DeedsMerge, another seat; renumbered). Own work. -/
import Derived.Test.YtbjpkdbneopgkaaGreatDoorESpecU
import Derived.Test.YtbjpkdbneopgkaaGreatDoorEHandS
import Derived.Test.YtbjpkdbneopgkaaGreatDoorVmQ
set_option linter.unusedVariables false
set_option linter.unusedSimpArgs false
set_option maxRecDepth 100000
namespace Go.Vm
open Go.RowKit
def s128 (a b : Rr) : Int := s76 a.1 b.1
theorem h128 (a b : Rr) (hw : WFs A128 (a, b, ())) : ∃ k, f128 s76 k a b = some (s128 a b, ()) := ⟨0, rfl⟩
end Go.Vm
namespace Go.Vm
open Go.RowKit Go.Vm.Gain
theorem range_collect {α β : Type} {f : List α → α → ((List β × Unit) × Unit) → Option (((List β × Unit) × Unit) ⊕ ((List β × Unit) × Unit))} {fin : List α → ((List β × Unit) × Unit) → Option (((List β × Unit) × Unit) ⊕ ((List β × Unit) × Unit))} (sel : α → Option β)
    (hf : ∀ D e (ys : List β), ys.length < 4294967296 → f D e ((ys, ()), ()) = some (.inl ((ys ++ (sel e).toList, ()), ()))) (hfin : ∀ D (ys : List β), fin D ((ys, ()), ()) = some (.inr ((ys, ()), ()))) :
    ∀ (l D : List α) (ys : List β), l.length + ys.length ≤ 4294967296 → rangeM f fin l D ((ys, ()), ()) = some ((ys ++ l.filterMap sel, ()), ())
  | [], D, ys, _ => by simp [rangeM, hfin]
  | e :: l, D, ys, h => by
    simp only [List.length_cons] at h
    have hlen : (sel e).toList.length ≤ 1 := by cases sel e <;> simp
    simp only [rangeM, hf D e ys (by omega), Option.bind_some]
    rw [range_collect sel hf hfin l (D ++ [e]) _ (by rw [List.length_append]; omega)]
    cases hs : sel e <;> simp [List.filterMap_cons, hs]
section
variable {κ ν : Type} {eq : κ → κ → Bool}
structure MInv (key : ν → κ) (src : List ν) (n : Nat) (c : List (κ × ν × Nat) × Nat) : Prop where
  nd : (mkeys c.1).Nodup
  key : ∀ e ∈ c.1, key e.2.1 = e.1
  src : ∀ e ∈ c.1, e.2.1 ∈ src
  len : c.1.length ≤ n
theorem mrep_mem (heq : ∀ a b, eq a b = true ↔ a = b) (k : κ) (v : ν) : ∀ (l : List (κ × ν × Nat)) (e : κ × ν × Nat), e ∈ mrep eq k v l → (e.1 = k ∧ e.2.1 = v) ∨ e ∈ l
  | [], e, h => by cases h
  | x :: l, e, h => by
    simp only [mrep] at h
    cases hx : eq k x.1 <;> rw [hx] at h
    · rcases List.mem_cons.1 h with rfl | h
      · exact .inr (by simp)
      · exact (mrep_mem heq k v l e h).imp id (fun h => by simp [h])
    · rcases List.mem_cons.1 h with rfl | h
      · exact .inl ⟨((heq _ _).1 hx).symm, rfl⟩
      · exact .inr (by simp [h])
theorem mrep_len (k : κ) (v : ν) : ∀ (l : List (κ × ν × Nat)), (mrep eq k v l).length = l.length
  | [] => rfl
  | x :: l => by
    simp only [mrep]
    cases eq k x.1 <;> simp [mrep_len k v l]
theorem mput_mem (heq : ∀ a b, eq a b = true ↔ a = b) (k : κ) (v : ν) (c : List (κ × ν × Nat) × Nat) (e : κ × ν × Nat) (h : e ∈ (mput eq k v c).1) : (e.1 = k ∧ e.2.1 = v) ∨ e ∈ c.1 := by
  unfold mput at h
  cases h1 : mhas eq k c.1 <;> rw [h1] at h
  · rcases List.mem_append.1 h with h | h
    · exact .inr h
    · simp only [List.mem_singleton] at h
      subst h
      exact .inl ⟨rfl, rfl⟩
  · exact mrep_mem heq k v c.1 e h
theorem mput_len (k : κ) (v : ν) (c : List (κ × ν × Nat) × Nat) : (mput eq k v c).1.length ≤ c.1.length + 1 := by
  unfold mput
  cases mhas eq k c.1
  · simp
  · simp [mrep_len]
theorem MInv.put (heq : ∀ a b, eq a b = true ↔ a = b) {key : ν → κ} {src : List ν} {n : Nat} {c : List (κ × ν × Nat) × Nat} (h : MInv key src n c) {v : ν} (hv : v ∈ src) : MInv key src (n + 1) (mput eq (key v) v c) := by
  refine ⟨keys_mput heq _ _ _ h.nd, fun e he => ?_, fun e he => ?_, ?_⟩
  · rcases mput_mem heq _ _ _ e he with ⟨h1, h2⟩ | h1
    · rw [h1, h2]
    · exact h.key e h1
  · rcases mput_mem heq _ _ _ e he with ⟨h1, h2⟩ | h1
    · rw [h2]; exact hv
    · exact h.src e h1
  · have := mput_len (eq := eq) (key v) v c
    have := h.len
    omega
theorem MInv.del (heq : ∀ a b, eq a b = true ↔ a = b) {key : ν → κ} {src : List ν} {n : Nat} {c : List (κ × ν × Nat) × Nat} (h : MInv key src n c) (k : κ) : MInv key src (n + 1) (mdel eq k c.1, c.2) := by
  have hs := mdel_sub eq k c.1
  exact ⟨keys_mdel _ _ h.nd, fun e he => h.key e (hs.subset he), fun e he => h.src e (hs.subset he), by have := hs.length_le; have := h.len; simp only; omega⟩
theorem MInv.more {key : ν → κ} {src : List ν} {n : Nat} {c : List (κ × ν × Nat) × Nat} (h : MInv key src n c) : MInv key src (n + 1) c := ⟨h.nd, h.key, h.src, Nat.le_succ_of_le h.len⟩
theorem MInv.empty (key : ν → κ) (src : List ν) : MInv key src 0 ([], 0) := ⟨by simp, fun e h => (by cases h), fun e h => (by cases h), Nat.le_refl _⟩
end
/-- a sort: the order in which things come is of no account, where the comparison tells them apart -/
theorem sortF_perm {T : Ty} {c1 c2 : T.den → T.den → Int} {xs ys : List T.den} (hp : xs.Perm ys) (hw : ∀ x ∈ xs, WF T x) (hl : xs.length < 4611686018427387904) (h : CmpOK c1 (· ∈ xs)) (hc : ∀ a ∈ xs, ∀ b ∈ xs, c2 a b = c1 a b) (ha : ∀ a ∈ xs, ∀ b ∈ xs, c1 a b = 0 → a = b) :
    sortF T c2 ys = sortF T c1 xs := by
  have hm : ∀ y, y ∈ ys ↔ y ∈ xs := fun y => hp.mem_iff.symm
  obtain ⟨zs, h1, h2, h3⟩ := sortF_total hw hl h
  obtain ⟨us, k1, k2, k3⟩ := sortF_total (xs := ys) (cmp := c2) (fun x hx => hw x ((hm x).1 hx)) (by rw [← hp.length_eq]; exact hl)
    ((h.mono (fun a ha => (hm a).1 ha)).congr (fun a b ha hb => hc a ((hm a).1 ha) b ((hm b).1 hb)))
  rw [h1, k1]
  have hus : ∀ u ∈ us, u ∈ xs := fun u hu => (hm u).1 (k2.mem_iff.1 hu)
  have hzs : ∀ u ∈ zs, u ∈ xs := fun u hu => h2.mem_iff.1 hu
  congr 1
  refine (sorted_unique (r := fun a b => c1 a b ≤ 0) (h2.trans (hp.trans k2.symm)) (fun a ha' b hb' g1 g2 => ?_) h3 ?_).symm
  · have := (h.flip_le (hzs a ha') (hzs b hb')).1 g1
    have := (h.flip_le (hzs b hb') (hzs a ha')).1 g2
    exact ha a (hzs a ha') b (hzs b hb') (by omega)
  · exact List.Pairwise.imp_of_mem (fun {a b} ha hb hab => by rw [← hc a (hus a ha) b (hus b hb)]; exact hab) k3
theorem wf_all {T : Ty} {xs : List T.den} (h : WF (.slice T) xs) : ∀ x ∈ xs, WF T x := fun x hx => by
  simp only [WF] at h
  obtain ⟨i, hi, rfl⟩ := List.mem_iff_getElem.1 hx
  exact h.2 i _ (List.getElem?_eq_getElem hi)
def strEq (a b : ByteArray) : Bool := keq .str a b
theorem str_iff (a b : ByteArray) : strEq a b = true ↔ a = b := sEq_iff
abbrev RMp : Type := List (ByteArray × Rd × Nat) × Nat
def askS (at_ : Int) (d : Dd) (c : RMp) : RMp := bif decide (dAt d > at_) then c else bif dKind d == 3 then mput strEq (dRide d).1 (dRide d) c else bif dKind d == 4 then (mdel strEq (dKey d) c.1, c.2) else c
def askM (at_ : Int) (l : List Dd) : RMp := l.foldl (fun c d => askS at_ d c) ([], 0)
theorem foldl_inv {α β : Type} {f : β → α → β} (I : Nat → β → Prop) (src : List α) (hs : ∀ n b x, x ∈ src → I n b → I (n + 1) (f b x)) : ∀ (l : List α) (n : Nat) (b : β), (∀ x ∈ l, x ∈ src) → I n b → I (n + l.length) (l.foldl f b)
  | [], n, b, _, h => h
  | x :: l, n, b, hl, h => by
    have := foldl_inv I src hs l (n + 1) (f b x) (fun y hy => hl y (by simp [hy])) (hs n b x (hl x (by simp)) h)
    rw [List.length_cons, show n + (l.length + 1) = n + 1 + l.length from by omega]
    exact this
theorem askM_inv (at_ : Int) (l : List Dd) : MInv (fun r : Rd => r.1) (l.map dRide) l.length (askM at_ l) := by
  have := foldl_inv (f := fun c d => askS at_ d c) (fun n c => MInv (fun r : Rd => r.1) (l.map dRide) n c) l (fun n c d hd h => by
    unfold askS
    cases decide (dAt d > at_)
    · cases dKind d == 3
      · cases dKind d == 4
        · exact h.more
        · exact h.del str_iff _
      · exact h.put str_iff (List.mem_map.2 ⟨d, hd, rfl⟩)
    · exact h.more) l 0 ([], 0) (fun _ h => h) (MInv.empty _ _)
  rw [Nat.zero_add] at this; exact this
end Go.Vm
namespace Go.Vm
open Go.RowKit Go.Vm.Gain
theorem wf_ride {d : Dd} (h : WF EY3 d) : WF EY2 (dRide d) := by
  simp only [WF, WFs] at h ⊢
  exact h.2.2.2.2.2.2.2.1
theorem ride_ok : CmpOK (fun a b : Rd => cmpS a.1 b.1) (fun _ => True) := cmpS_ok.on fun r : Rd => r.1
noncomputable def s127_128 (xs : List Rd) : Option (List Rd) := sortF EY2 s128 xs
/-- what is true of entries is true of them in whatever order -/
theorem MInv.perm {κ ν : Type} {key : ν → κ} {src : List ν} {n : Nat} {c : List (κ × ν × Nat) × Nat} (h : MInv key src n c) {l : List (κ × ν × Nat)} (hl : l.Perm c.1) : MInv key src n (l, c.2) :=
  ⟨((hl.map (·.1)).nodup_iff).2 h.nd, fun e he => h.key e (hl.mem_iff.1 he), fun e he => h.src e (hl.mem_iff.1 he), by simp only; rw [hl.length_eq]; exact h.len⟩
theorem vals_perm {κ ν : Type} {l l' : List (κ × ν × Nat)} (h : l.Perm l') : (mvals l').Perm (mvals l) := (h.map (·.2.1)).symm
theorem vals_len {κ ν : Type} (l : List (κ × ν × Nat)) : (mvals l).length = l.length := List.length_map ..
theorem nodup_inj {α β : Type} (f : α → β) : ∀ {l : List α} {a b : α}, (l.map f).Nodup → a ∈ l → b ∈ l → f a = f b → a = b
  | [], a, b, _, ha, _, _ => by cases ha
  | x :: l, a, b, h, ha, hb, hf => by
    simp only [List.map_cons, List.nodup_cons] at h
    rcases List.mem_cons.1 ha with rfl | ha'
    · rcases List.mem_cons.1 hb with rfl | hb'
      · rfl
      · exact absurd (List.mem_map.2 ⟨b, hb', hf.symm⟩) h.1
    · rcases List.mem_cons.1 hb with rfl | hb'
      · exact absurd (List.mem_map.2 ⟨a, ha', hf⟩) h.1
      · exact nodup_inj f h.2 ha' hb' hf
theorem MInv.inj {κ ν : Type} {key : ν → κ} {src : List ν} {n : Nat} {c : List (κ × ν × Nat) × Nat} (h : MInv key src n c) {a b : ν} (ha : a ∈ mvals c.1) (hb : b ∈ mvals c.1) (hk : key a = key b) : a = b := by
  obtain ⟨e, he, rfl⟩ := List.mem_map.1 ha
  obtain ⟨e', he', rfl⟩ := List.mem_map.1 hb
  rw [h.key e he, h.key e' he'] at hk
  have : e = e' := nodup_inj (·.1) h.nd he he' hk
  rw [this]
noncomputable def s96 (l : List Dd) (at_ : Int) : Option (List Rd × Unit) := if l.length ≤ 1000 then (sortF EY2 s128 (mvals (askM at_ l).1)).map fun v => (v, ()) else none
theorem h96 (l : List Dd) (at_ : Int) (y : List Rd × Unit) (hw : WFs A96 (l, at_, ())) (h : s96 l at_ = some y) : ∃ k, f96 s127_128 k l at_ = some y := by
  have hwf : ∀ d ∈ l, WF EY3 d := wf_all (T := EY3) hw.1
  clear hw
  unfold s96 at h
  split at h
  rotate_left
  · cases h
  rename_i hlen
  have hl : l.length ≤ 9223372036854775807 := by omega
  have hI := askM_inv at_ l
  refine ⟨l.length + 1, ?_⟩
  unfold f96
  have hi := iter_fold (f := fun y1 : (Int × Unit) × (RMp × Unit) =>
      bif decide (y1.1.1 < (l.length : Int)) then
        bif inR y1.1.1 (l.length : Int) then
          bif decide ((rd (ByteArray.empty, 0, 0, 0, ByteArray.empty, ByteArray.empty, (ByteArray.empty, 0, 0, ()), (ByteArray.empty, ByteArray.empty, ByteArray.empty, ByteArray.empty, 0, 0, 0, 0, ()), ()) l y1.1.1).2.2.1 > at_) then some (.inl ((IntKind.i64.wrap (y1.1.1 + 1), ()), (y1.2.1, ())))
          else bif (rd (ByteArray.empty, 0, 0, 0, ByteArray.empty, ByteArray.empty, (ByteArray.empty, 0, 0, ()), (ByteArray.empty, ByteArray.empty, ByteArray.empty, ByteArray.empty, 0, 0, 0, 0, ()), ()) l y1.1.1).2.2.2.1 == 3 then
            some (.inl ((IntKind.i64.wrap (y1.1.1 + 1), ()), (mput strEq ((rd (ByteArray.empty, 0, 0, 0, ByteArray.empty, ByteArray.empty, (ByteArray.empty, 0, 0, ()), (ByteArray.empty, ByteArray.empty, ByteArray.empty, ByteArray.empty, 0, 0, 0, 0, ()), ()) l y1.1.1).2.2.2.2.2.2.2.1.1) (rd (ByteArray.empty, 0, 0, 0, ByteArray.empty, ByteArray.empty, (ByteArray.empty, 0, 0, ()), (ByteArray.empty, ByteArray.empty, ByteArray.empty, ByteArray.empty, 0, 0, 0, 0, ()), ()) l y1.1.1).2.2.2.2.2.2.2.1 y1.2.1, ())))
          else bif (rd (ByteArray.empty, 0, 0, 0, ByteArray.empty, ByteArray.empty, (ByteArray.empty, 0, 0, ()), (ByteArray.empty, ByteArray.empty, ByteArray.empty, ByteArray.empty, 0, 0, 0, 0, ()), ()) l y1.1.1).2.2.2.1 == 4 then
            some (.inl ((IntKind.i64.wrap (y1.1.1 + 1), ()), ((mdel strEq ((rd (ByteArray.empty, 0, 0, 0, ByteArray.empty, ByteArray.empty, (ByteArray.empty, 0, 0, ()), (ByteArray.empty, ByteArray.empty, ByteArray.empty, ByteArray.empty, 0, 0, 0, 0, ()), ()) l y1.1.1).2.2.2.2.1) y1.2.1.1, y1.2.1.2), ())))
          else some (.inl ((IntKind.i64.wrap (y1.1.1 + 1), ()), (y1.2.1, ())))
        else none
      else some (.inr ((.inr ((), (y1.2.1, ()))) : (List Rd × Unit) ⊕ (Unit × (RMp × Unit))))) (s0 := (((0 : Int), ()), (([], 0), ()))) (k := l.length + 1) l (fun j c => (((j : Int), ()), (c, ()))) (askS at_) (fun c => .inr ((), (c, ()))) (fun _ _ => True) ([], 0) trivial rfl (Nat.lt_succ_self _) (fun _ _ _ _ _ => trivial)
    (fun j x c hx _ => by
      simp only [lt_at hx, inR_at hx, rd_at hx, wrap_succ hx hl, cond_true, askS]
      cases decide (dAt x > at_)
      · simp only [cond_false]
        cases dKind x == 3
        · simp only [cond_false]
          cases dKind x == 4 <;> rfl
        · rfl
      · rfl) (fun c _ => by simp)
  refine (congrArg (fun q => Option.bind q (fun r : (List Rd × Unit) ⊕ (Unit × (RMp × Unit)) => match r with
    | .inl z => some z
    | .inr z2 => anyOrder z2.2.1.1 fun l7 => Option.bind (rangeM (α := ByteArray × Rd × Nat) (Y := (List Rd × Unit) × Unit) (T := (List Rd × Unit) × Unit) (fun D e4 y3 =>
        bif decide (List.length y3.1.1 + List.length ([e4.2.1]) ≤ 4294967296) then some (.inl (((y3.1.1 ++ [e4.2.1]), ()), ())) else none) (fun D y3 => some (.inr ((y3.1.1, ()), ()))) l7 [] (([], ()), ())) fun z5 => Option.bind (s127_128 z5.1.1) fun v6 => some (v6, ()))) hi).trans ?_
  rw [Option.bind_some]
  refine anyOrder_const (fun es hes => ?_)
  have hIe := hI.perm hes
  rw [range_collect (fun e : ByteArray × Rd × Nat => some e.2.1) (fun D e ys hys => by
      rw [show decide (ys.length + [e.2.1].length ≤ 4294967296) = true from decide_eq_true (by simp; omega)]; rfl) (fun D ys => rfl) es [] [] (by have := hIe.len; simp only at this; simp; omega), Option.bind_some]
  have e1 : ([] ++ es.filterMap fun e : ByteArray × Rd × Nat => some e.2.1) = mvals es := by simp [List.filterMap_eq_map']
  simp only [e1]
  have e2 : s127_128 (mvals es) = sortF EY2 s128 (mvals (askM at_ l).1) := by
    refine sortF_perm (T := EY2) (c1 := s128) (c2 := s128) (vals_perm hes) (fun x hx => ?_) ?_ (ride_ok.mono fun _ _ => trivial) (fun _ _ _ _ => rfl) (fun a ha b hb hab => ?_)
    · obtain ⟨e, he, rfl⟩ := List.mem_map.1 hx
      obtain ⟨d, hd, hde⟩ := List.mem_map.1 (hI.src e he)
      rw [← hde]
      exact wf_ride (hwf _ hd)
    · have h1 := hI.len; have h2 := vals_len (askM at_ l).1; exact Nat.lt_of_le_of_lt (Nat.le_of_eq h2) (by omega)
    · exact hI.inj ha hb (cmpS_zero.1 hab)
  rw [e2, ← h]
  cases sortF EY2 s128 (mvals (askM at_ l).1) <;> rfl
end Go.Vm
namespace Go.Vm
open Go.RowKit Go.Vm.Gain
noncomputable def s95 (l : List Dd) (at_ : Int) : Int := bif dFaults l == 0 then (bif !s105 at_ then 1 else dFaults l) else dFaults l
theorem h95 (l : List Dd) (at_ : Int) (hw : WFs A95 (l, at_, ())) : ∃ k, f95 s61 s105 k l at_ = some (s95 l at_, ()) := ⟨0, by
  unfold f95 s95
  rw [show s61 = dFaults from rfl]
  simp only [cond_one]⟩
noncomputable def s66 (l : List Dd) (at_ : Int) : Option (List Rd × Int × Unit) := f66 s95 s96 0 l at_
theorem h66 (l : List Dd) (at_ : Int) (y : List Rd × Int × Unit) (hw : WFs A66 (l, at_, ())) (h : s66 l at_ = some y) : ∃ k, f66 s95 s96 k l at_ = some y := ⟨0, h⟩
noncomputable def s22 : Option (Bool × Unit) := f22 s66 0
def rd0 : Rd := (ByteArray.mk #[114], ByteArray.mk #[97], ByteArray.mk #[98], ByteArray.mk #[99], 0, 5, 1, 0, ())
def dd0 : Dd := (ByteArray.mk #[115], 1, 0, 3, ByteArray.empty, ByteArray.empty, (ByteArray.empty, 0, 0, ()), rd0, ())
theorem dd0_ok : dFault dd0 = 0 := by decide +kernel
theorem dd0s : dFaults [dd0] = 0 := by
  unfold dFaults
  rw [if_neg (by simp), if_pos (by simp [chkP, dd0_ok, ordP]), if_pos (by simp)]
theorem sort_one {T : Ty} {cmp : T.den → T.den → Int} (x : T.den) (hw : WF T x) (h : CmpOK cmp (· = x)) : sortF T cmp [x] = some [x] := by
  obtain ⟨ys, h1, h2, _⟩ := sortF_total (T := T) (cmp := cmp) (xs := [x]) (fun y hy => by simp at hy; rw [hy]; exact hw) (by simp) (h.mono (fun a ha => by simpa using ha))
  rw [h1, List.perm_singleton.1 h2]
theorem rd0_wf : WF EY2 rd0 := by
  simp only [WF, WFs]
  exact ⟨by decide, by decide, by decide, by decide, trivial, trivial, trivial, trivial, trivial⟩
theorem s66_0 : s66 [dd0] 0 = some ([rd0], 0, ()) := by
  have e1 : s95 [dd0] 0 = 0 := by
    unfold s95
    rw [dd0s]
    rfl
  have e3 : sortF EY2 s128 (mvals (askM 0 [dd0]).1) = some [rd0] := sort_one (T := EY2) rd0 rd0_wf (ride_ok.mono fun _ _ => trivial)
  unfold s66 f66
  rw [e1]
  simp only [bne_self_eq_false, cond_false]
  have e4 : s96 [dd0] 0 = some ([rd0], ()) := by
    unfold s96
    rw [if_pos (by simp), e3]
    rfl
  rw [e4]
  rfl
theorem s22_true : s22 = some (true, ()) := by
  unfold s22 f22
  refine (congrArg (fun q => Option.bind q _) s66_0).trans ?_
  rw [Option.bind_some]
  decide +kernel
theorem h22 (y : Bool × Unit) (hw : WFs A22 ()) (h : s22 = some y) : ∃ k, f22 s66 k = some y := ⟨0, h⟩
end Go.Vm
