/- DeedsMerge: the law. Own work. -/
import Derived.Test.YtfiembgemhonlaaDSpecG
set_option linter.unusedVariables false
set_option linter.unusedSimpArgs false
namespace Go.Vm
open Go.RowKit Go.Vm.Gain
noncomputable def s161 (l : List Dd) (at_ : Int) : Int := bif dFaults l == 0 then (bif !s121 at_ then 1 else dFaults l) else dFaults l
theorem h161 (l : List Dd) (at_ : Int) (hw : WFs A161 (l, at_, ())) : ∃ k, f161 s68 s121 k l at_ = some (s161 l at_, ()) := ⟨0, by
  unfold f161 s161
  rw [show s68 = dFaults from rfl]
  simp only [cond_one]⟩
noncomputable def s63 (l : List Dd) (at_ : Int) : Option (List Dd × Int × Unit) := f63 s161 s162 0 l at_
theorem h63 (l : List Dd) (at_ : Int) (y : List Dd × Int × Unit) (hw : WFs A63 (l, at_, ())) (h : s63 l at_ = some y) : ∃ k, f63 s161 s162 k l at_ = some y := ⟨0, h⟩
noncomputable def s64 (l : List Dd) (at_ : Int) : Option (List Rd × Int × Unit) := f64 s161 s163 0 l at_
theorem h64 (l : List Dd) (at_ : Int) (y : List Rd × Int × Unit) (hw : WFs A64 (l, at_, ())) (h : s64 l at_ = some y) : ∃ k, f64 s161 s163 k l at_ = some y := ⟨0, h⟩
noncomputable def s66 (l : List Dd) (at_ : Int) : Option (List Dd × Unit) := f66 s166 0 l at_
theorem h66 (l : List Dd) (at_ : Int) (y : List Dd × Unit) (hw : WFs A66 (l, at_, ())) (h : s66 l at_ = some y) : ∃ k, f66 s166 k l at_ = some y := ⟨0, h⟩
noncomputable def s67 (l : List Dd) (at_ : Int) : Option (List Rd × Unit) := (s166 l 3 at_).bind fun v => if v.1.length ≤ 1000 then some (v.1.map dRide, ()) else none
theorem h67 (l : List Dd) (at_ : Int) (y : List Rd × Unit) (hw : WFs A67 (l, at_, ())) (h : s67 l at_ = some y) : ∃ k, f67 s166 k l at_ = some y := by
  clear hw
  unfold s67 at h
  obtain ⟨v, h1, h2⟩ := Option.bind_eq_some_iff.1 h
  clear h
  split at h2
  rotate_left
  · cases h2
  rename_i hlen
  cases h2
  refine ⟨v.1.length + 1, ?_⟩
  unfold f67
  rw [h1, Option.bind_some]
  have hl : v.1.length ≤ 9223372036854775807 := by omega
  rw [iter_scanI (s0 := (([], (0 : Int), ()), ())) (β := List Rd) v.1 (fun j o => ((o, (j : Int), ()), ())) (fun _ x o => .inl (o ++ [dRide x])) (fun o => .inr ((o, ()), ())) (fun j o => o.length = j) [] rfl rfl (Nat.lt_succ_self _) ?a0 ?a1 ?a2]
  case a2 => intro o _; simp
  case a0 =>
    intro j x o o' hx hJ hs
    cases hs
    simp [hJ]
  case a1 =>
    intro j x o hx hJ
    have hj := (List.getElem?_eq_some_iff.1 hx).1
    simp only [lt_at hx, inR_at hx, rd_at hx, wrap_succ hx hl, cond_true]
    rw [show decide (o.length + [x.2.2.2.2.2.2.2.1].length ≤ 4294967296) = true from decide_eq_true (by simp; omega)]
    rfl
  rw [scan_fold0 (fun (x : Dd) (o : List Rd) => o ++ [dRide x])]
  have e : ∀ (m : List Dd) (o : List Rd), m.foldl (fun o x => o ++ [dRide x]) o = o ++ m.map dRide := by
    intro m
    induction m with
    | nil => intro o; simp
    | cons x m ih => intro o; simp [ih]
  rw [e, List.nil_append]
  rfl
/-! ### equal lists -/
open Classical in
noncomputable def s69 (a b : List Dd) : Bool := decide (a = b)
theorem h69 (a b : List Dd) (hw : WFs A69 (a, b, ())) : ∃ k, f69 k a b = some (s69 a b, ()) := by
  simp only [WFs, WF] at hw
  have hl : a.length ≤ 9223372036854775807 := hw.1.1
  clear hw
  refine ⟨a.length + 1, ?_⟩
  unfold f69 s69
  by_cases hlen : a.length = b.length
  · have e : ((a.length : Int) != (b.length : Int)) = false := by simp [hlen]
    simp only [e, cond_false]
    have hzl : (List.zip a b).length = a.length := by rw [List.length_zip]; omega
    rw [iter_find (s0 := (((0 : Int), ()), ())) (List.zip a b) (fun i => (((i : Int), ()), ())) (fun q => !ddEq q.1 q.2) (fun i => .inl (false, ())) (.inr ((), ())) ?a1 ?a2 ?a3 ?a4]
    case a1 => rfl
    case a2 => omega
    case a3 =>
      intro j q hq
      obtain ⟨x, y⟩ := q
      obtain ⟨hx, hy⟩ := List.getElem?_zip_eq_some.1 hq
      simp only [lt_at hx, inR_at hx, inR_at hy, rd_at hx, rd_at hy, wrap_succ hx hl, cond_true, dd_chain]
      cases ddEq x y <;> rfl
    case a4 => rw [hzl]; simp
    have := zip_none (ne := fun x y : Dd => !ddEq x y) (fun x y => by rw [Bool.not_eq_false', ddEq_iff]) hlen
    cases hf : (List.zip a b).findIdx? (fun q => !ddEq q.1 q.2) with
    | none => simp [this.1 hf]
    | some i =>
      have : ¬ a = b := fun e => by rw [this.2 e] at hf; cases hf
      simp [this]
  · have e : ((a.length : Int) != (b.length : Int)) = true := by simp; omega
    have : ¬ a = b := fun e => hlen (by rw [e])
    simp [e, this]
def rrEq (a b : Rd) : Bool := keq TR0 a b
theorem rrEq_iff (a b : Rd) : rrEq a b = true ↔ a = b := keq_iff (K := TR0) rfl a b
theorem rr_chain (a b : Rd) : ((sEq a.1 b.1) && ((sEq a.2.1 b.2.1) && ((sEq a.2.2.1 b.2.2.1) && ((sEq a.2.2.2.1 b.2.2.2.1) && ((a.2.2.2.2.1 == b.2.2.2.2.1) && ((a.2.2.2.2.2.1 == b.2.2.2.2.2.1) && ((a.2.2.2.2.2.2.1 == b.2.2.2.2.2.2.1) && ((a.2.2.2.2.2.2.2.1 == b.2.2.2.2.2.2.2.1) && true)))))))) = rrEq a b := rfl
open Classical in
noncomputable def s70 (a b : List Rd) : Bool := decide (a = b)
theorem h70 (a b : List Rd) (hw : WFs A70 (a, b, ())) : ∃ k, f70 k a b = some (s70 a b, ()) := by
  simp only [WFs, WF] at hw
  have hl : a.length ≤ 9223372036854775807 := hw.1.1
  clear hw
  refine ⟨a.length + 1, ?_⟩
  unfold f70 s70
  by_cases hlen : a.length = b.length
  · have e : ((a.length : Int) != (b.length : Int)) = false := by simp [hlen]
    simp only [e, cond_false]
    have hzl : (List.zip a b).length = a.length := by rw [List.length_zip]; omega
    rw [iter_find (s0 := (((0 : Int), ()), ())) (List.zip a b) (fun i => (((i : Int), ()), ())) (fun q => !rrEq q.1 q.2) (fun i => .inl (false, ())) (.inr ((), ())) ?a1 ?a2 ?a3 ?a4]
    case a1 => rfl
    case a2 => omega
    case a3 =>
      intro j q hq
      obtain ⟨x, y⟩ := q
      obtain ⟨hx, hy⟩ := List.getElem?_zip_eq_some.1 hq
      simp only [lt_at hx, inR_at hx, inR_at hy, rd_at hx, rd_at hy, wrap_succ hx hl, cond_true, rr_chain]
      cases rrEq x y <;> rfl
    case a4 => rw [hzl]; simp
    have := zip_none (ne := fun x y : Rd => !rrEq x y) (fun x y => by rw [Bool.not_eq_false', rrEq_iff]) hlen
    cases hf : (List.zip a b).findIdx? (fun q => !rrEq q.1 q.2) with
    | none => simp [this.1 hf]
    | some i =>
      have : ¬ a = b := fun e => by rw [this.2 e] at hf; cases hf
      simp [this]
  · have e : ((a.length : Int) != (b.length : Int)) = true := by simp; omega
    have : ¬ a = b := fun e => hlen (by rw [e])
    simp [e, this]
/-! ### package net knows who asks -/
noncomputable def s73 : Option (Bool × Unit) := f73 s64 0
theorem h73 (y : Bool × Unit) (hw : WFs A73 ()) (h : s73 = some y) : ∃ k, f73 s64 k = some y := ⟨0, h⟩
def rd0 : Rd := (ByteArray.mk #[114], ByteArray.mk #[97], ByteArray.mk #[98], ByteArray.mk #[99], 0, 5, 1, 0, ())
def dd0 : Dd := (ByteArray.mk #[115], 1, 0, 3, ByteArray.empty, ByteArray.empty, (ByteArray.empty, 0, 0, ()), rd0, ())
theorem dd0_ok : dFault dd0 = 0 := by decide +kernel
theorem dd0s : dFaults [dd0] = 0 := by
  unfold dFaults
  rw [if_neg (by simp), if_pos (by simp [chkP, dd0_ok, ordP]), if_pos (by simp)]
theorem sort_one {T : Ty} {cmp : T.den → T.den → Int} (x : T.den) (hw : WF T x) (h : CmpOK cmp (· = x)) : sortF T cmp [x] = some [x] := by
  obtain ⟨ys, h1, h2, _⟩ := sortF_total (T := T) (cmp := cmp) (xs := [x]) (fun y hy => by simp at hy; rw [hy]; exact hw) (by simp) (h.mono (fun a ha => by simpa using ha))
  rw [h1, List.perm_singleton.1 h2]
theorem rd0_wf : WF TR0 rd0 := by
  simp only [WF, WFs]
  exact ⟨by decide, by decide, by decide, by decide, trivial, trivial, trivial, trivial, trivial⟩
theorem s64_0 : s64 [dd0] 0 = some ([rd0], 0, ()) := by
  have e1 : s161 [dd0] 0 = 0 := by
    unfold s161
    rw [dd0s]
    rfl
  have e3 : sortF TR0 s232 (mvals (askM 0 [dd0]).1) = some [rd0] := sort_one (T := TR0) rd0 rd0_wf (ride_ok.mono fun _ _ => trivial)
  unfold s64 f64
  rw [e1]
  simp only [bne_self_eq_false, cond_false]
  have e4 : s163 [dd0] 0 = some ([rd0], ()) := by
    unfold s163
    rw [if_pos (by simp), e3]
    rfl
  rw [e4]
  rfl
theorem s73_true : s73 = some (true, ()) := by
  unfold s73 f73
  refine (congrArg (fun q => Option.bind q _) s64_0).trans ?_
  rw [Option.bind_some]
  decide +kernel
/-! ### the law -/
theorem merge_same (a b : List Dd) (ha : Deeds a) (hb : Deeds b) (hwa : ∀ d ∈ a, WF TD0 d) (hwb : ∀ d ∈ b, WF TD0 d) (za : dFaults a = 0) (zb : dFaults b = 0) : ∃ m e, s61 a b = some (m, e, ()) ∧ s65 a b = some (m, e, ()) := by
  have hla := ha.len
  have hlb := hb.len
  unfold s61 s65
  rw [if_pos (by rw [za, zb]; rfl), if_pos ⟨hla, hlb⟩, addAll_append, addAll_new a [] (by simpa using ha.names), List.nil_append, Option.bind_some]
  cases h : addAll a b with
  | none => exact ⟨[], 13, rfl, rfl⟩
  | some out =>
    have hmem := addAll_mem b a out h
    have hlen := addAll_len b a out h
    have hok : ∀ d ∈ out, dFault d = 0 := fun d hd => (hmem d hd).elim (ha.each d) (hb.each d)
    have hs : sortF TD0 s154 out = sortF TD0 dCmp out := sortF_congr (T := TD0) (fun x hx y hy => s154_cmp (small_of (hok x hx)).1 (small_of (hok y hy)).1)
    have hv : ∃ v : List Dd, sortF TD0 dCmp out = some v ∧ v.Perm out ∧ v.Pairwise fun a b => dCmp a b ≤ 0 := sortF_total (T := TD0) (fun x hx => (hmem x hx).elim (hwa x) (hwb x)) (Nat.lt_of_le_of_lt hlen (by omega)) (dCmp_ok.mono fun _ _ => trivial)
    obtain ⟨v, h1, h2, _⟩ := hv
    have hvl := h2.length_eq
    simp only
    rw [hs, h1]
    by_cases hn : out.length > 1000
    · rw [if_pos hn]
      exact ⟨[], 2, rfl, by show (if v.length > 1000 then some (([] : List Dd), (2 : Int), ()) else some (v, 0, ())) = _; rw [if_pos (by rw [hvl]; exact hn)]⟩
    · rw [if_neg hn]
      exact ⟨v, 0, rfl, by show (if v.length > 1000 then some (([] : List Dd), (2 : Int), ()) else some (v, 0, ())) = _; rw [if_neg (by rw [hvl]; exact hn)]⟩
theorem cars_both (a : List Dd) (at_ : Int) (ha : Deeds a) (hwa : ∀ d ∈ a, WF TD0 d) (za : dFaults a = 0) (hm : s121 at_ = true) : ∃ c, s63 a at_ = some (c, 0, ()) ∧ s66 a at_ = some (c, ()) := by
  have e := cars_same at_ a ha.each hwa ha.len
  have hv : ∃ v : List Dd, sortF TD0 cmpA (cnts 1 at_ a) = some v ∧ v.Perm (cnts 1 at_ a) ∧ v.Pairwise fun a b => cmpA a b ≤ 0 :=
    sortF_total (T := TD0) (fun x hx => hwa x (cnts_src 1 at_ a x hx)) (Nat.lt_of_le_of_lt (cnts_len 1 at_ a) (by have := ha.len; omega)) (about_ok.mono fun _ _ => trivial)
  obtain ⟨v, h1, _, _⟩ := hv
  refine ⟨v, ?_, ?_⟩
  · unfold s63 f63
    have e1 : s161 a at_ = 0 := by unfold s161; rw [za, hm]; rfl
    have e2 : s162 a at_ = some (v, ()) := by unfold s162; rw [if_pos ha.len, e, h1]; rfl
    rw [e1, e2]
    rfl
  · unfold s66 f66
    have e2 : s166 a 1 at_ = some (v, ()) := by unfold s166; rw [if_pos ⟨ha.len, ha.each⟩, h1]; rfl
    rw [e2]
    rfl
theorem asks_both (a : List Dd) (at_ : Int) (ha : Deeds a) (hwa : ∀ d ∈ a, WF TD0 d) (za : dFaults a = 0) (hm : s121 at_ = true) : ∃ r, s64 a at_ = some (r, 0, ()) ∧ s67 a at_ = some (r, ()) := by
  obtain ⟨v, h1, h2, h3⟩ := asks_same at_ a ha.each hwa ha.len
  refine ⟨v.map dRide, ?_, ?_⟩
  · unfold s64 f64
    have e1 : s161 a at_ = 0 := by unfold s161; rw [za, hm]; rfl
    have e2 : s163 a at_ = some (v.map dRide, ()) := by unfold s163; rw [if_pos ha.len, h2]; rfl
    rw [e1, e2]
    rfl
  · unfold s67
    have e2 : s166 a 3 at_ = some (v, ()) := by unfold s166; rw [if_pos ⟨ha.len, ha.each⟩, h1]; rfl
    rw [e2, Option.bind_some, if_pos h3]
theorem s63_bad (a : List Dd) (at_ : Int) (h : s161 a at_ ≠ 0) : s63 a at_ = some ([], s161 a at_, ()) := by
  unfold s63 f63
  rw [show (s161 a at_ != 0) = true from by simpa using h]
  rfl
theorem s64_bad (a : List Dd) (at_ : Int) (h : s161 a at_ ≠ 0) : s64 a at_ = some ([], s161 a at_, ()) := by
  unfold s64 f64
  rw [show (s161 a at_ != 0) = true from by simpa using h]
  rfl
def s7 (a b : List Dd) (at_ : Int) (x : Dd) : Option (Bool × Unit) := if a.length ≤ 4294967296 ∧ b.length ≤ 4294967296 then some (true, ()) else none
theorem h7 (a b : List Dd) (at_ : Int) (x : Dd) (y : Bool × Unit) (hw : WFs A7 (a, b, at_, x, ())) (h : s7 a b at_ x = some y) :
    ∃ k, f7 s20 s32 s60 s61 s62 s63 s64 s65 s66 s67 s68 s69 s70 s71 s72 s73 k a b at_ x = some y := by
  have hwa : ∀ d ∈ a, WF TD0 d := wf_all (T := TD0) hw.1
  have hwb : ∀ d ∈ b, WF TD0 d := wf_all (T := TD0) hw.2.1
  clear hw
  unfold s7 at h
  split at h
  rotate_left
  · cases h
  rename_i hl
  cases h
  refine ⟨0, ?_⟩
  unfold f7
  have ea : s62 a = some (a, ()) := by unfold s62; rw [if_pos hl.1]
  have eb : s62 b = some (b, ()) := by unfold s62; rw [if_pos hl.2]
  have hm : s32 at_ = bif s121 at_ then 0 else 1 := by unfold s32 s121 s21; cases s114 at_ 0 345686399999 <;> rfl
  simp only [ea, eb, Option.bind_some, s73_true, show s20 = nz from rfl, show s60 = dFaults from rfl, show s68 = dFaults from rfl, nzp]
  by_cases za : dFaults a = 0
  · have ha := deeds_of za
    have e71 : s71 a x = some (wAll dFault (fun o x => decide (dCmp x o ≤ 0)) a x) := by unfold s71; rw [if_pos za]
    have e72 : s72 a x = some (wAll dFault (fun o x => decide (dCmp x o ≤ 0)) a x) := by unfold s72; rw [if_pos ha.len, write_same za]
    have hmer : ∃ m e, s61 a b = some (m, e, ()) ∧ (if dFaults b = 0 then s65 a b = some (m, e, ()) else m = [] ∧ e = dFaults b) := by
      by_cases zb : dFaults b = 0
      · obtain ⟨m, e, h1, h2⟩ := merge_same a b ha (deeds_of zb) hwa hwb za zb
        exact ⟨m, e, h1, by rw [if_pos zb]; exact h2⟩
      · refine ⟨[], dFaults b, ?_, by rw [if_neg zb]; exact ⟨rfl, rfl⟩⟩
        have hz : nz [dFaults a, dFaults b] = dFaults b := by rw [nzp, if_pos za]
        unfold s61
        rw [hz, if_neg zb]
    have hcar : ∃ c r e, s63 a at_ = some (c, e, ()) ∧ s64 a at_ = some (r, e, ()) ∧ (if s121 at_ = true then s66 a at_ = some (c, ()) ∧ s67 a at_ = some (r, ()) ∧ e = 0 else c = [] ∧ r = [] ∧ e = 1) := by
      by_cases hmm : s121 at_ = true
      · obtain ⟨c, h1, h2⟩ := cars_both a at_ ha hwa za hmm
        obtain ⟨r, h3, h4⟩ := asks_both a at_ ha hwa za hmm
        exact ⟨c, r, 0, h1, h3, by rw [if_pos hmm]; exact ⟨h2, h4, rfl⟩⟩
      · have e1 : s161 a at_ = 1 := by
          unfold s161
          rw [za, show s121 at_ = false from by simpa using hmm]
          rfl
        refine ⟨[], [], 1, ?_, ?_, by rw [if_neg hmm]; exact ⟨rfl, rfl, rfl⟩⟩
        · rw [s63_bad a at_ (by rw [e1]; decide), e1]
        · rw [s64_bad a at_ (by rw [e1]; decide), e1]
    obtain ⟨m, e, h1, h2⟩ := hmer
    obtain ⟨c, r, e', h3, h4, h5⟩ := hcar
    rw [h1, h3, h4, e71, e72, hm]
    simp only [za, if_true, Option.bind_some, beq_self_eq_true, cond_true, bne_self_eq_false, cond_false]
    by_cases zb : dFaults b = 0
    · rw [if_pos zb] at h2
      rw [h2]
      simp only [zb, beq_self_eq_true, cond_true, Option.bind_some]
      by_cases hmm : s121 at_ = true
      · rw [if_pos hmm] at h5
        obtain ⟨h5, h6, rfl⟩ := h5
        rw [h5, h6, hmm]
        simp [s69, s70]
      · rw [if_neg hmm] at h5
        obtain ⟨rfl, rfl, rfl⟩ := h5
        rw [show s121 at_ = false from by simpa using hmm]
        simp [s69, s70]
    · rw [if_neg zb] at h2
      obtain ⟨rfl, rfl⟩ := h2
      rw [show (dFaults b == 0) = false from by simpa using zb]
      simp only [cond_false, Option.bind_some]
      by_cases hmm : s121 at_ = true
      · rw [if_pos hmm] at h5
        obtain ⟨h5, h6, rfl⟩ := h5
        rw [h5, h6, hmm]
        simp [s69, s70]
      · rw [if_neg hmm] at h5
        obtain ⟨rfl, rfl, rfl⟩ := h5
        rw [show s121 at_ = false from by simpa using hmm]
        simp [s69, s70]
  · have e61 : s61 a b = some ([], dFaults a, ()) := by
      have hz : nz [dFaults a, dFaults b] = dFaults a := by rw [nzp, if_neg za]
      unfold s61
      rw [hz, if_neg za]
    have e71 : s71 a x = some ([], dFaults a, ()) := by unfold s71; rw [if_neg za]
    have e161 : s161 a at_ = dFaults a := by
      unfold s161
      rw [show (dFaults a == 0) = false from by simpa using za]
      rfl
    have e63 : s63 a at_ = some ([], dFaults a, ()) := by rw [s63_bad a at_ (by rw [e161]; exact za), e161]
    have e64 : s64 a at_ = some ([], dFaults a, ()) := by rw [s64_bad a at_ (by rw [e161]; exact za), e161]
    rw [e61, e63, e64, e71]
    simp only [za, if_false, Option.bind_some, show (dFaults a == 0) = false from by simpa using za, cond_false, bne_self_eq_false]
    simp [s69, s70]
end Go.Vm
