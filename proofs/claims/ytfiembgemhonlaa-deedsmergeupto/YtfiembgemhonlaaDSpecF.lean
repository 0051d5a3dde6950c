/- DeedsMerge: cars that are there, rides that are asked for. Own work. -/
import Derived.Test.YtfiembgemhonlaaDSpecE
import Derived.Test.YtfiembgemhonlaaVmD
set_option linter.unusedVariables false
set_option linter.unusedSimpArgs false
namespace Go.Vm
open Go.RowKit Go.Vm.Gain
theorem wf_ride {d : Dd} (h : WF TD0 d) : WF TR0 (dRide d) := by
  simp only [WF, WFs] at h ⊢
  exact h.2.2.2.2.2.2.2.1
/-- cars by their keys -/
theorem car_ok : CmpOK (fun a b : Dd => cmpS (dCar a).1 (dCar b).1) (fun _ => True) := cmpS_ok.on fun d => (dCar d).1
theorem ride_ok : CmpOK (fun a b : Rd => cmpS a.1 b.1) (fun _ => True) := cmpS_ok.on fun r : Rd => r.1
theorem about_ok : CmpOK (fun a b : Dd => cmpS (about a) (about b)) (fun _ => True) := cmpS_ok.on about
noncomputable def s159_230 (xs : List Dd) : Option (List Dd) := sortF TD0 s230 xs
noncomputable def s231_232 (xs : List Rd) : Option (List Rd) := sortF TR0 s232 xs
noncomputable def s159_234 (xs : List Dd) : Option (List Dd) := sortP TD0 s234 xs
/-- what is true of entries is true of them in whatever order -/
theorem MInv.perm {κ ν : Type} {key : ν → κ} {src : List ν} {n : Nat} {c : List (κ × ν × Nat) × Nat} (h : MInv key src n c) {l : List (κ × ν × Nat)} (hl : l.Perm c.1) : MInv key src n (l, c.2) :=
  ⟨((hl.map (·.1)).nodup_iff).2 h.nd, fun e he => h.key e (hl.mem_iff.1 he), fun e he => h.src e (hl.mem_iff.1 he), by simp only; rw [hl.length_eq]; exact h.len⟩
theorem vals_perm {κ ν : Type} {l l' : List (κ × ν × Nat)} (h : l.Perm l') : (mvals l').Perm (mvals l) := (h.map (·.2.1)).symm
theorem vals_len {κ ν : Type} (l : List (κ × ν × Nat)) : (mvals l).length = l.length := List.length_map ..
theorem nodup_inj {α β : Type} (f : α → β) : ∀ {l : List α} {a b : α}, (l.map f).Nodup → a ∈ l → b ∈ l → f a = f b → a = b
  | [], a, b, _, ha, _, _ => by cases ha
  | x :: l, a, b, h, ha, hb, hf => by
    simp only [List.map_cons, List.nodup_cons] at h
    rcases List.mem_cons.1 ha with rfl | ha'
    · rcases List.mem_cons.1 hb with rfl | hb'
      · rfl
      · exact absurd (List.mem_map.2 ⟨b, hb', hf.symm⟩) h.1
    · rcases List.mem_cons.1 hb with rfl | hb'
      · exact absurd (List.mem_map.2 ⟨a, ha', hf⟩) h.1
      · exact nodup_inj f h.2 ha' hb' hf
theorem filter_vals {κ ν : Type} (p : ν → Bool) : ∀ (es : List (κ × ν × Nat)), (es.filterMap fun e => if p e.2.1 then some e.2.1 else none) = (mvals es).filter p
  | [] => rfl
  | e :: es => by
    simp only [List.filterMap_cons, List.map_cons, List.filter_cons, filter_vals p es]
    cases p e.2.1 <;> rfl
theorem MInv.inj {κ ν : Type} {key : ν → κ} {src : List ν} {n : Nat} {c : List (κ × ν × Nat) × Nat} (h : MInv key src n c) {a b : ν} (ha : a ∈ mvals c.1) (hb : b ∈ mvals c.1) (hk : key a = key b) : a = b := by
  obtain ⟨e, he, rfl⟩ := List.mem_map.1 ha
  obtain ⟨e', he', rfl⟩ := List.mem_map.1 hb
  rw [h.key e he, h.key e' he'] at hk
  have : e = e' := nodup_inj (·.1) h.nd he he' hk
  rw [this]
noncomputable def s162 (l : List Dd) (at_ : Int) : Option (List Dd × Unit) := if l.length ≤ 1000 then (sortF TD0 s230 (mvals (carM at_ l).1)).map fun v => (v, ()) else none
theorem h162 (l : List Dd) (at_ : Int) (y : List Dd × Unit) (hw : WFs A162 (l, at_, ())) (h : s162 l at_ = some y) : ∃ k, f162 s159_230 k l at_ = some y := by
  have hwf : ∀ d ∈ l, WF TD0 d := wf_all (T := TD0) hw.1
  clear hw
  unfold s162 at h
  split at h
  rotate_left
  · cases h
  rename_i hlen
  have hl : l.length ≤ 9223372036854775807 := by omega
  have hI := carM_inv at_ l
  refine ⟨l.length + 1, ?_⟩
  unfold f162
  have hi := iter_fold (f := fun y1 : (Int × Unit) × (DMp × Unit) =>
      bif decide (y1.1.1 < (l.length : Int)) then
        bif inR y1.1.1 (l.length : Int) then
          bif decide ((rd (ByteArray.empty, 0, 0, 0, ByteArray.empty, ByteArray.empty, (ByteArray.empty, 0, 0, ()), (ByteArray.empty, ByteArray.empty, ByteArray.empty, ByteArray.empty, 0, 0, 0, 0, ()), ()) l y1.1.1).2.2.1 > at_) then some (.inl ((IntKind.i64.wrap (y1.1.1 + 1), ()), (y1.2.1, ())))
          else bif (rd (ByteArray.empty, 0, 0, 0, ByteArray.empty, ByteArray.empty, (ByteArray.empty, 0, 0, ()), (ByteArray.empty, ByteArray.empty, ByteArray.empty, ByteArray.empty, 0, 0, 0, 0, ()), ()) l y1.1.1).2.2.2.1 == 1 then
            some (.inl ((IntKind.i64.wrap (y1.1.1 + 1), ()), (mput strEq ((rd (ByteArray.empty, 0, 0, 0, ByteArray.empty, ByteArray.empty, (ByteArray.empty, 0, 0, ()), (ByteArray.empty, ByteArray.empty, ByteArray.empty, ByteArray.empty, 0, 0, 0, 0, ()), ()) l y1.1.1).2.2.2.2.2.2.1.1) (rd (ByteArray.empty, 0, 0, 0, ByteArray.empty, ByteArray.empty, (ByteArray.empty, 0, 0, ()), (ByteArray.empty, ByteArray.empty, ByteArray.empty, ByteArray.empty, 0, 0, 0, 0, ()), ()) l y1.1.1) y1.2.1, ())))
          else bif (rd (ByteArray.empty, 0, 0, 0, ByteArray.empty, ByteArray.empty, (ByteArray.empty, 0, 0, ()), (ByteArray.empty, ByteArray.empty, ByteArray.empty, ByteArray.empty, 0, 0, 0, 0, ()), ()) l y1.1.1).2.2.2.1 == 2 then
            some (.inl ((IntKind.i64.wrap (y1.1.1 + 1), ()), ((mdel strEq ((rd (ByteArray.empty, 0, 0, 0, ByteArray.empty, ByteArray.empty, (ByteArray.empty, 0, 0, ()), (ByteArray.empty, ByteArray.empty, ByteArray.empty, ByteArray.empty, 0, 0, 0, 0, ()), ()) l y1.1.1).2.2.2.2.1) y1.2.1.1, y1.2.1.2), ())))
          else some (.inl ((IntKind.i64.wrap (y1.1.1 + 1), ()), (y1.2.1, ())))
        else none
      else some (.inr ((.inr ((), (y1.2.1, ()))) : (List Dd × Unit) ⊕ (Unit × (DMp × Unit))))) (s0 := (((0 : Int), ()), (([], 0), ()))) (k := l.length + 1) l (fun j c => (((j : Int), ()), (c, ()))) (carS at_) (fun c => .inr ((), (c, ()))) (fun _ _ => True) ([], 0) trivial rfl (Nat.lt_succ_self _) (fun _ _ _ _ _ => trivial)
    (fun j x c hx _ => by
      simp only [lt_at hx, inR_at hx, rd_at hx, wrap_succ hx hl, cond_true, carS]
      cases decide (dAt x > at_)
      · simp only [cond_false]
        cases dKind x == 1
        · simp only [cond_false]
          cases dKind x == 2 <;> rfl
        · rfl
      · rfl) (fun c _ => by simp)
  refine (congrArg (fun q => Option.bind q (fun r : (List Dd × Unit) ⊕ (Unit × (DMp × Unit)) => match r with
    | .inl z => some z
    | .inr z2 => anyOrder z2.2.1.1 fun l7 => Option.bind (rangeM (α := ByteArray × Dd × Nat) (Y := (List Dd × Unit) × Unit) (T := (List Dd × Unit) × Unit) (fun D e4 y3 =>
        bif decide (List.length y3.1.1 + List.length ([e4.2.1]) ≤ 4294967296) then some (.inl (((y3.1.1 ++ [e4.2.1]), ()), ())) else none) (fun D y3 => some (.inr ((y3.1.1, ()), ()))) l7 [] (([], ()), ())) fun z5 => Option.bind (s159_230 z5.1.1) fun v6 => some (v6, ()))) hi).trans ?_
  rw [Option.bind_some]
  refine anyOrder_const (fun es hes => ?_)
  have hIe := hI.perm hes
  rw [range_collect (fun e : ByteArray × Dd × Nat => some e.2.1) (fun D e ys hys => by
      rw [show decide (ys.length + [e.2.1].length ≤ 4294967296) = true from decide_eq_true (by simp; omega)]; rfl) (fun D ys => rfl) es [] [] (by have := hIe.len; simp only at this; simp; omega), Option.bind_some]
  have e1 : ([] ++ es.filterMap fun e : ByteArray × Dd × Nat => some e.2.1) = mvals es := by simp [List.filterMap_eq_map']
  simp only [e1]
  have e2 : s159_230 (mvals es) = sortF TD0 s230 (mvals (carM at_ l).1) := by
    refine sortF_perm (T := TD0) (c1 := s230) (c2 := s230) (vals_perm hes) (fun x hx => ?_) ?_ (car_ok.mono fun _ _ => trivial) (fun _ _ _ _ => rfl) (fun a ha b hb hab => ?_)
    · obtain ⟨e, he, rfl⟩ := List.mem_map.1 hx
      exact hwf _ (hI.src e he)
    · have h1 := hI.len; have h2 := vals_len (carM at_ l).1; exact Nat.lt_of_le_of_lt (Nat.le_of_eq h2) (by omega)
    · exact hI.inj ha hb (cmpS_zero.1 hab)
  rw [e2, ← h]
  cases sortF TD0 s230 (mvals (carM at_ l).1) <;> rfl
noncomputable def s163 (l : List Dd) (at_ : Int) : Option (List Rd × Unit) := if l.length ≤ 1000 then (sortF TR0 s232 (mvals (askM at_ l).1)).map fun v => (v, ()) else none
theorem h163 (l : List Dd) (at_ : Int) (y : List Rd × Unit) (hw : WFs A163 (l, at_, ())) (h : s163 l at_ = some y) : ∃ k, f163 s231_232 k l at_ = some y := by
  have hwf : ∀ d ∈ l, WF TD0 d := wf_all (T := TD0) hw.1
  clear hw
  unfold s163 at h
  split at h
  rotate_left
  · cases h
  rename_i hlen
  have hl : l.length ≤ 9223372036854775807 := by omega
  have hI := askM_inv at_ l
  refine ⟨l.length + 1, ?_⟩
  unfold f163
  have hi := iter_fold (f := fun y1 : (Int × Unit) × (RMp × Unit) =>
      bif decide (y1.1.1 < (l.length : Int)) then
        bif inR y1.1.1 (l.length : Int) then
          bif decide ((rd (ByteArray.empty, 0, 0, 0, ByteArray.empty, ByteArray.empty, (ByteArray.empty, 0, 0, ()), (ByteArray.empty, ByteArray.empty, ByteArray.empty, ByteArray.empty, 0, 0, 0, 0, ()), ()) l y1.1.1).2.2.1 > at_) then some (.inl ((IntKind.i64.wrap (y1.1.1 + 1), ()), (y1.2.1, ())))
          else bif (rd (ByteArray.empty, 0, 0, 0, ByteArray.empty, ByteArray.empty, (ByteArray.empty, 0, 0, ()), (ByteArray.empty, ByteArray.empty, ByteArray.empty, ByteArray.empty, 0, 0, 0, 0, ()), ()) l y1.1.1).2.2.2.1 == 3 then
            some (.inl ((IntKind.i64.wrap (y1.1.1 + 1), ()), (mput strEq ((rd (ByteArray.empty, 0, 0, 0, ByteArray.empty, ByteArray.empty, (ByteArray.empty, 0, 0, ()), (ByteArray.empty, ByteArray.empty, ByteArray.empty, ByteArray.empty, 0, 0, 0, 0, ()), ()) l y1.1.1).2.2.2.2.2.2.2.1.1) (rd (ByteArray.empty, 0, 0, 0, ByteArray.empty, ByteArray.empty, (ByteArray.empty, 0, 0, ()), (ByteArray.empty, ByteArray.empty, ByteArray.empty, ByteArray.empty, 0, 0, 0, 0, ()), ()) l y1.1.1).2.2.2.2.2.2.2.1 y1.2.1, ())))
          else bif (rd (ByteArray.empty, 0, 0, 0, ByteArray.empty, ByteArray.empty, (ByteArray.empty, 0, 0, ()), (ByteArray.empty, ByteArray.empty, ByteArray.empty, ByteArray.empty, 0, 0, 0, 0, ()), ()) l y1.1.1).2.2.2.1 == 4 then
            some (.inl ((IntKind.i64.wrap (y1.1.1 + 1), ()), ((mdel strEq ((rd (ByteArray.empty, 0, 0, 0, ByteArray.empty, ByteArray.empty, (ByteArray.empty, 0, 0, ()), (ByteArray.empty, ByteArray.empty, ByteArray.empty, ByteArray.empty, 0, 0, 0, 0, ()), ()) l y1.1.1).2.2.2.2.1) y1.2.1.1, y1.2.1.2), ())))
          else some (.inl ((IntKind.i64.wrap (y1.1.1 + 1), ()), (y1.2.1, ())))
        else none
      else some (.inr ((.inr ((), (y1.2.1, ()))) : (List Rd × Unit) ⊕ (Unit × (RMp × Unit))))) (s0 := (((0 : Int), ()), (([], 0), ()))) (k := l.length + 1) l (fun j c => (((j : Int), ()), (c, ()))) (askS at_) (fun c => .inr ((), (c, ()))) (fun _ _ => True) ([], 0) trivial rfl (Nat.lt_succ_self _) (fun _ _ _ _ _ => trivial)
    (fun j x c hx _ => by
      simp only [lt_at hx, inR_at hx, rd_at hx, wrap_succ hx hl, cond_true, askS]
      cases decide (dAt x > at_)
      · simp only [cond_false]
        cases dKind x == 3
        · simp only [cond_false]
          cases dKind x == 4 <;> rfl
        · rfl
      · rfl) (fun c _ => by simp)
  refine (congrArg (fun q => Option.bind q (fun r : (List Rd × Unit) ⊕ (Unit × (RMp × Unit)) => match r with
    | .inl z => some z
    | .inr z2 => anyOrder z2.2.1.1 fun l7 => Option.bind (rangeM (α := ByteArray × Rd × Nat) (Y := (List Rd × Unit) × Unit) (T := (List Rd × Unit) × Unit) (fun D e4 y3 =>
        bif decide (List.length y3.1.1 + List.length ([e4.2.1]) ≤ 4294967296) then some (.inl (((y3.1.1 ++ [e4.2.1]), ()), ())) else none) (fun D y3 => some (.inr ((y3.1.1, ()), ()))) l7 [] (([], ()), ())) fun z5 => Option.bind (s231_232 z5.1.1) fun v6 => some (v6, ()))) hi).trans ?_
  rw [Option.bind_some]
  refine anyOrder_const (fun es hes => ?_)
  have hIe := hI.perm hes
  rw [range_collect (fun e : ByteArray × Rd × Nat => some e.2.1) (fun D e ys hys => by
      rw [show decide (ys.length + [e.2.1].length ≤ 4294967296) = true from decide_eq_true (by simp; omega)]; rfl) (fun D ys => rfl) es [] [] (by have := hIe.len; simp only at this; simp; omega), Option.bind_some]
  have e1 : ([] ++ es.filterMap fun e : ByteArray × Rd × Nat => some e.2.1) = mvals es := by simp [List.filterMap_eq_map']
  simp only [e1]
  have e2 : s231_232 (mvals es) = sortF TR0 s232 (mvals (askM at_ l).1) := by
    refine sortF_perm (T := TR0) (c1 := s232) (c2 := s232) (vals_perm hes) (fun x hx => ?_) ?_ (ride_ok.mono fun _ _ => trivial) (fun _ _ _ _ => rfl) (fun a ha b hb hab => ?_)
    · obtain ⟨e, he, rfl⟩ := List.mem_map.1 hx
      obtain ⟨d, hd, hde⟩ := List.mem_map.1 (hI.src e he)
      rw [← hde]
      exact wf_ride (hwf _ hd)
    · have h1 := hI.len; have h2 := vals_len (askM at_ l).1; exact Nat.lt_of_le_of_lt (Nat.le_of_eq h2) (by omega)
    · exact hI.inj ha hb (cmpS_zero.1 hab)
  rw [e2, ← h]
  cases sortF TR0 s232 (mvals (askM at_ l).1) <;> rfl
/-- what counts of a kind, in whatever order -/
def cnts (kind at_ : Int) (l : List Dd) : List Dd := (mvals (cntM at_ l).1).filter fun d => dKind d == kind
def cmpA (a b : Dd) : Int := cmpS (about a) (about b)
open Classical in
noncomputable def s166 (l : List Dd) (kind at_ : Int) : Option (List Dd × Unit) := if l.length ≤ 1000 ∧ (∀ d ∈ l, dFault d = 0) then (sortF TD0 cmpA (cnts kind at_ l)).map fun v => (v, ()) else none
theorem h166 (l : List Dd) (kind at_ : Int) (y : List Dd × Unit) (hw : WFs A166 (l, kind, at_, ())) (h : s166 l kind at_ = some y) : ∃ k, f166 s159_234 s233 k l kind at_ = some y := by
  have hwf : ∀ d ∈ l, WF TD0 d := wf_all (T := TD0) hw.1
  clear hw
  unfold s166 at h
  split at h
  rotate_left
  · cases h
  rename_i hh
  obtain ⟨hlen, hok⟩ := hh
  have hl : l.length ≤ 9223372036854775807 := by omega
  have hI := cntM_inv at_ l
  refine ⟨l.length + 1, ?_⟩
  unfold f166
  have hi := iter_fold (f := fun y1 : (Int × Unit) × (DMp × Unit) =>
      bif decide (y1.1.1 < (l.length : Int)) then
        bif inR y1.1.1 (l.length : Int) then
          bif decide ((rd (ByteArray.empty, 0, 0, 0, ByteArray.empty, ByteArray.empty, (ByteArray.empty, 0, 0, ()), (ByteArray.empty, ByteArray.empty, ByteArray.empty, ByteArray.empty, 0, 0, 0, 0, ()), ()) l y1.1.1).2.2.1 ≤ at_) then
            Option.bind (s233 (rd (ByteArray.empty, 0, 0, 0, ByteArray.empty, ByteArray.empty, (ByteArray.empty, 0, 0, ()), (ByteArray.empty, ByteArray.empty, ByteArray.empty, ByteArray.empty, 0, 0, 0, 0, ()), ()) l y1.1.1)) fun v2 =>
            some (.inl ((IntKind.i64.wrap (y1.1.1 + 1), ()), (mput strEq v2.1 (rd (ByteArray.empty, 0, 0, 0, ByteArray.empty, ByteArray.empty, (ByteArray.empty, 0, 0, ()), (ByteArray.empty, ByteArray.empty, ByteArray.empty, ByteArray.empty, 0, 0, 0, 0, ()), ()) l y1.1.1) y1.2.1, ())))
          else some (.inl ((IntKind.i64.wrap (y1.1.1 + 1), ()), (y1.2.1, ())))
        else none
      else some (.inr ((.inr ((), (y1.2.1, ()))) : (List Dd × Unit) ⊕ (Unit × (DMp × Unit))))) (s0 := (((0 : Int), ()), (([], 0), ()))) (k := l.length + 1) l (fun j c => (((j : Int), ()), (c, ()))) (cntS at_) (fun c => .inr ((), (c, ()))) (fun _ _ => True) ([], 0) trivial rfl (Nat.lt_succ_self _) (fun _ _ _ _ _ => trivial)
    (fun j x c hx _ => by
      simp only [lt_at hx, inR_at hx, rd_at hx, wrap_succ hx hl, cond_true, cntS, s233_some (hok x (List.mem_of_getElem? hx)), Option.bind_some]
      cases decide (dAt x ≤ at_) <;> rfl) (fun c _ => by simp)
  refine (congrArg (fun q => Option.bind q (fun r : (List Dd × Unit) ⊕ (Unit × (DMp × Unit)) => match r with
    | .inl z => some z
    | .inr z2 => anyOrder z2.2.1.1 fun l7 => Option.bind (rangeM (α := ByteArray × Dd × Nat) (Y := (List Dd × Unit) × Unit) (T := (List Dd × Unit) × Unit) (fun D e4 y3 =>
        bif e4.2.1.2.2.2.1 == kind then bif decide (List.length y3.1.1 + List.length ([e4.2.1]) ≤ 4294967296) then some (.inl (((y3.1.1 ++ [e4.2.1]), ()), ())) else none else some (.inl ((y3.1.1, ()), ()))) (fun D y3 => some (.inr ((y3.1.1, ()), ()))) l7 [] (([], ()), ())) fun z5 => Option.bind (s159_234 z5.1.1) fun v6 => some (v6, ()))) hi).trans ?_
  rw [Option.bind_some]
  refine anyOrder_const (fun es hes => ?_)
  have hIe := hI.perm hes
  rw [range_collect (fun e : ByteArray × Dd × Nat => if dKind e.2.1 == kind then some e.2.1 else none) (fun D e ys hys => by
      rw [show decide (ys.length + [e.2.1].length ≤ 4294967296) = true from decide_eq_true (by simp; omega)]
      show (bif dKind e.2.1 == kind then _ else _) = _
      cases dKind e.2.1 == kind <;> simp) (fun D ys => rfl) es [] [] (by have := hIe.len; simp only at this; simp; omega), Option.bind_some]
  have e1 : ([] ++ es.filterMap fun e : ByteArray × Dd × Nat => if dKind e.2.1 == kind then some e.2.1 else none) = (mvals es).filter fun d => dKind d == kind := by
    rw [List.nil_append]
    exact filter_vals (fun d => dKind d == kind) es
  simp only [e1]
  have hmem : ∀ d ∈ (mvals (cntM at_ l).1), d ∈ l := fun d hd => by
    obtain ⟨e, he, rfl⟩ := List.mem_map.1 hd
    exact hI.src e he
  have hsub : ∀ d ∈ cnts kind at_ l, d ∈ mvals (cntM at_ l).1 := fun d hd => (List.mem_filter.1 hd).1
  have hperm : (cnts kind at_ l).Perm ((mvals es).filter fun d => dKind d == kind) := (vals_perm hes).filter _
  have e2 : s159_234 ((mvals es).filter fun d => dKind d == kind) = sortF TD0 cmpA (cnts kind at_ l) := by
    have hin : ∀ d ∈ ((mvals es).filter fun d => dKind d == kind), d ∈ cnts kind at_ l := fun d hd => hperm.mem_iff.2 hd
    obtain ⟨c', h1, h2⟩ := sortP_of (T := TD0) (cmpP := s234) (cmp := cmpA) (xs := (mvals es).filter fun d => dKind d == kind) (fun a ha b hb => by
      unfold s234
      rw [s233_some (hok a (hmem a (hsub a (hin a ha)))), s233_some (hok b (hmem b (hsub b (hin b hb))))]
      rfl)
    refine Eq.trans h1 ?_
    refine sortF_perm (T := TD0) (c1 := cmpA) (c2 := c') hperm (fun x hx => hwf x (hmem x (hsub x hx))) ?_ (about_ok.mono fun _ _ => trivial) (fun a ha b hb => h2 a (hperm.mem_iff.1 ha) b (hperm.mem_iff.1 hb)) (fun a ha b hb hab => ?_)
    · have h3 := hI.len
      have h4 : (cnts kind at_ l).length ≤ (mvals (cntM at_ l).1).length := List.length_filter_le _ _
      rw [List.length_map] at h4
      exact Nat.lt_of_le_of_lt h4 (by omega)
    · exact hI.inj (hsub a ha) (hsub b hb) (cmpS_zero.1 hab)
  rw [e2, ← h]
  cases sortF TD0 cmpA (cnts kind at_ l) <;> rfl
end Go.Vm
