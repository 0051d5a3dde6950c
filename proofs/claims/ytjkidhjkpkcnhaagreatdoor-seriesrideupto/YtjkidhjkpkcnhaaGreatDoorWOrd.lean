/- SeriesRide: the order of rides, and days of two series. Plain law. Own work. -/
import Derived.Test.YtjkidhjkpkcnhaaGreatDoorWSpecN
set_option maxRecDepth 100000
set_option linter.unusedVariables false
set_option linter.unusedSimpArgs false
namespace Go.Vm
open Go.RowKit
theorem sortF_congr {T : Ty} {c1 c2 : T.den → T.den → Int} {xs : List T.den} (h : ∀ a ∈ xs, ∀ b ∈ xs, c1 a b = c2 a b) : sortF T c1 xs = sortF T c2 xs := by
  have e : (fun x y : Els T (· ∈ xs) => c1 x.1 y.1) = (fun x y : Els T (· ∈ xs) => c2 x.1 y.1) := by
    funext x y
    exact h x.1 x.2.2 y.1 y.2.2
  have eo : Orders T c1 xs ↔ Orders T c2 xs := by unfold Orders; rw [e]
  by_cases h1 : (∀ x ∈ xs, WF T x) ∧ xs.length < 4611686018427387904 ∧ Orders T c1 xs ∧ xs ≠ []
  · have h2 : (∀ x ∈ xs, WF T x) ∧ xs.length < 4611686018427387904 ∧ Orders T c2 xs ∧ xs ≠ [] := ⟨h1.1, h1.2.1, eo.1 h1.2.2.1, h1.2.2.2⟩
    unfold sortF
    rw [dif_pos h1, dif_pos h2]
    unfold pdqE
    rw [e]
  · have h2 : ¬ ((∀ x ∈ xs, WF T x) ∧ xs.length < 4611686018427387904 ∧ Orders T c2 xs ∧ xs ≠ []) := fun h => h1 ⟨h.1, h.2.1, eo.2 h.2.2.1, h.2.2.2⟩
    unfold sortF
    rw [dif_neg h1, dif_neg h2]
theorem refDay_ready {x : Sr2} {d : Int} {q : Rid} (h : refDay x d = some q) : 0 ≤ q.2.2.2.2.1 ∧ q.2.2.2.2.1 ≤ 345686399999 := by
  unfold refDay at h
  simp only at h
  generalize (chsOf x).foldl (chFold d) (0, wkOff x d) = p at h
  cases hb : (p.2 || (!s37 (tmAt x d p.1 x.2.2.2.2.2.2.2.2.1) || decide (tmAt x d p.1 x.2.2.2.2.2.2.2.2.2.1 > 345686400000)))
  · rw [hb] at h
    cases Option.some.inj h
    simp only [Bool.or_eq_false_iff] at hb
    have h1 := hb.2.1
    unfold s37 at h1
    rw [Bool.not_not] at h1
    exact out_false h1
  · rw [hb] at h; cases h
theorem refDay_of {x : Sr2} {d : Int} {q : Rid} (h : refDay x d = some q) : q.1 = idOf x d ∧ q.2.1 = x.2.1 ∧ q.2.2.1 = x.2.2.1 ∧ q.2.2.2.1 = x.2.2.2.1 := by
  unfold refDay at h
  simp only at h
  generalize (chsOf x).foldl (chFold d) (0, wkOff x d) = p at h
  cases hb : (p.2 || (!s37 (tmAt x d p.1 x.2.2.2.2.2.2.2.2.1) || decide (tmAt x d p.1 x.2.2.2.2.2.2.2.2.2.1 > 345686400000)))
  · rw [hb] at h
    cases Option.some.inj h
    exact ⟨rfl, rfl, rfl, rfl⟩
  · rw [hb] at h; cases h
theorem s65_lex (a b : Rid) : s65 a b = lexC (fun a b : Rid => cmpI a.2.2.2.2.1 b.2.2.2.2.1) (fun a b : Rid => cmpS a.1 b.1) a b := by
  unfold s65 lexC
  have e1 : s67 a.2.2.2.2.1 b.2.2.2.2.1 = cmpI a.2.2.2.2.1 b.2.2.2.2.1 := rfl
  have e2 : s68 a.1 b.1 = cmpS a.1 b.1 := rfl
  rw [e1, e2]
  simp only [nz]
  by_cases h : cmpI a.2.2.2.2.1 b.2.2.2.2.1 = 0
  · rw [if_pos h, if_pos h]
    by_cases h2 : cmpS a.1 b.1 = 0
    · rw [if_pos h2, h2]
    · rw [if_neg h2]
  · rw [if_neg h, if_neg h]
theorem s65_ok : CmpOK s65 (fun _ => True) :=
  (((cmpI_ok.on fun a : Rid => a.2.2.2.2.1).lex (cmpS_ok.on fun a : Rid => a.1)).congr fun a b _ _ => s65_lex a b).mono fun _ _ => trivial
theorem s81_eq {a b : Rid} (ha : 0 ≤ a.2.2.2.2.1 ∧ a.2.2.2.2.1 ≤ 345686399999) (hb : 0 ≤ b.2.2.2.2.1 ∧ b.2.2.2.2.1 ≤ 345686399999) : s65 a b = s81 a b := by
  rw [s65_lex]
  unfold s81 lexC
  have e2 : s68 a.1 b.1 = cmpS a.1 b.1 := rfl
  rw [e2, wrap_ok (by omega) (by omega)]
  by_cases h : a.2.2.2.2.1 = b.2.2.2.2.1
  · have h1 : (a.2.2.2.2.1 != b.2.2.2.2.1) = false := by simpa using h
    rw [h1, if_pos (cmpI_zero.2 h)]
    rfl
  · have h1 : (a.2.2.2.2.1 != b.2.2.2.2.1) = true := by simpa using h
    rw [h1, if_neg (fun e => h (cmpI_zero.1 e))]
    unfold cmpI s138
    simp only [cond_true]
    by_cases h2 : a.2.2.2.2.1 < b.2.2.2.2.1
    · rw [if_pos h2, decide_eq_true (show a.2.2.2.2.1 - b.2.2.2.2.1 < 0 by omega)]; rfl
    · rw [if_neg h2, if_pos (show a.2.2.2.2.1 > b.2.2.2.2.1 by omega), decide_eq_false (show ¬ a.2.2.2.2.1 - b.2.2.2.2.1 < 0 by omega), decide_eq_true (show a.2.2.2.2.1 - b.2.2.2.2.1 > 0 by omega)]; rfl
theorem mem_span {lo last d : Int} : d ∈ span lo last ↔ lo ≤ d ∧ d ≤ last := by
  unfold span
  simp only [List.mem_map, List.mem_range'_1]
  constructor
  · rintro ⟨i, ⟨_, h⟩, rfl⟩
    omega
  · rintro ⟨h1, h2⟩
    exact ⟨(d - lo).toNat, ⟨by omega, by omega⟩, by omega⟩
theorem span_up (lo last : Int) : (span lo last).Pairwise (· < ·) := by
  unfold span
  rw [List.pairwise_map]
  exact List.Pairwise.imp (fun h => by omega) List.pairwise_lt_range'
theorem keep_eq {α β : Type} (g : α → Option β) : ∀ l : List α, (l.filterMap fun d => (g d).map fun _ => d) = l.filter fun d => (g d).isSome
  | [] => rfl
  | d :: l => by
    rw [List.filterMap_cons, List.filter_cons]
    cases h : g d
    · simp only [Option.map_none, Option.isSome_none, Bool.false_eq_true, if_false]; exact keep_eq g l
    · simp only [Option.map_some, Option.isSome_some, if_true, keep_eq g l]
theorem days_filter (x : Sr2) : (refDays x).2 = (span x.2.2.2.2.1 x.2.2.2.2.2.1).filter fun d => (refDay x d).isSome := by
  rw [refDays_eq]
  exact keep_eq _ _
theorem sorted_ext : ∀ {l m : List Int}, l.Pairwise (· < ·) → m.Pairwise (· < ·) → (∀ d, d ∈ l ↔ d ∈ m) → l = m
  | [], [], _, _, _ => rfl
  | [], y :: m, _, _, h => absurd ((h y).2 (List.mem_cons_self ..)) (by simp)
  | x :: l, [], _, _, h => absurd ((h x).1 (List.mem_cons_self ..)) (by simp)
  | x :: l, y :: m, hl, hm, h => by
    have hl' := List.pairwise_cons.1 hl
    have hm' := List.pairwise_cons.1 hm
    have exy : x = y := by
      rcases List.mem_cons.1 ((h x).1 (List.mem_cons_self ..)) with e | e
      · exact e
      rcases List.mem_cons.1 ((h y).2 (List.mem_cons_self ..)) with e2 | e2
      · exact e2.symm
      have := hm'.1 x e
      have := hl'.1 y e2
      omega
    subst exy
    refine congrArg (x :: ·) (sorted_ext hl'.2 hm'.2 fun d => ⟨fun hd => ?_, fun hd => ?_⟩)
    · rcases List.mem_cons.1 ((h d).1 (List.mem_cons_of_mem _ hd)) with e | e
      · have := hl'.1 d hd; omega
      · exact e
    · rcases List.mem_cons.1 ((h d).2 (List.mem_cons_of_mem _ hd)) with e | e
      · have := hm'.1 d hd; omega
      · exact e
theorem same_eq {a b : Sr2} (k1 : sEq a.2.1 b.2.1 = true) (k2 : sEq a.2.2.1 b.2.2.1 = true) (k3 : sEq a.2.2.2.1 b.2.2.2.1 = true) : (span (loOf a b) (hiOf a b)).filter (sameDay a b) = (refDays a).2.filter (sameAt a b) := by
  rw [days_filter]
  refine sorted_ext ((span_up _ _).filter _) (((span_up _ _).filter _).filter _) fun d => ?_
  have hb : d ∈ (refDays b).2 ↔ (b.2.2.2.2.1 ≤ d ∧ d ≤ b.2.2.2.2.2.1) ∧ (refDay b d).isSome = true := by rw [days_filter, List.mem_filter, mem_span]
  simp only [List.mem_filter, mem_span]
  unfold sameDay sameAt
  rw [Bool.and_eq_true, decide_eq_true_eq, hb]
  unfold loOf hiOf
  simp only [decide_eq_true_eq]
  cases hp : refDay a d with
  | none => simp
  | some p =>
    cases hq : refDay b d with
    | none => simp
    | some q =>
      have fp := refDay_of hp
      have fq := refDay_of hq
      have e : sameR p q = s70 p q := by
        unfold sameR
        rw [fp.2.1, fp.2.2.1, fp.2.2.2, fq.2.1, fq.2.2.1, fq.2.2.2, k1, k2, k3]
        rfl
      simp only [e, Option.isSome_some, and_true]
      constructor
      · rintro ⟨⟨h1, h2⟩, h3⟩
        refine ⟨⟨?_, ?_⟩, ⟨?_, ?_⟩, h3⟩
        all_goals
          first
            | (split at h1 <;> split at h2 <;> omega)
      · rintro ⟨⟨h1, h2⟩, ⟨h3, h4⟩, h5⟩
        refine ⟨⟨?_, ?_⟩, h5⟩
        · split <;> omega
        · split <;> omega
theorem same_none {a b : Sr2} (k : (sEq a.2.1 b.2.1 && (sEq a.2.2.1 b.2.2.1 && sEq a.2.2.2.1 b.2.2.2.1)) = false) : (refDays a).2.filter (sameAt a b) = [] := by
  rw [List.filter_eq_nil_iff]
  intro d _ h
  unfold sameAt at h
  cases hp : refDay a d with
  | none => rw [hp] at h; simp at h
  | some p =>
    cases hq : refDay b d with
    | none => rw [hp, hq] at h; simp at h
    | some q =>
      rw [hp, hq] at h
      have fp := refDay_of hp
      have fq := refDay_of hq
      simp only [Bool.and_eq_true] at h
      have h := h.2
      unfold sameR at h
      rw [fp.2.1, fp.2.2.1, fp.2.2.2, fq.2.1, fq.2.2.1, fq.2.2.2] at h
      cases e1 : sEq a.2.1 b.2.1
      · rw [e1] at h; simp at h
      cases e2 : sEq a.2.2.1 b.2.2.1
      · rw [e1, e2] at h; simp at h
      cases e3 : sEq a.2.2.2.1 b.2.2.2.1
      · rw [e1, e2, e3] at h; simp at h
      rw [e1, e2, e3] at k
      cases k
/-- both sorts answer alike -/
theorem rides_sort {x : Sr2} (w : Win) (hn : dayOK x = true) (h1 : x.2.1.size ≤ 9223372036854775807) (h2 : x.2.2.1.size ≤ 9223372036854775807) (h3 : x.2.2.2.1.size ≤ 9223372036854775807) :
    ∃ v, s64 ((refDays x).1.filter (inW w)) = some v ∧ s64_81 ((refDays x).1.filter (keepW w)) = some v := by
  have ek : inW w = keepW w := by
    funext q
    unfold inW keepW s80
    by_cases hq : q.2.2.2.2.1 ≥ w.1
    · rw [decide_eq_true hq]; rfl
    · rw [decide_eq_false hq]; rfl
  rw [ek]
  have hlen := (refDays_len hn).1
  unfold dayOK at hn
  simp only [Bool.and_eq_true, decide_eq_true_eq] at hn
  obtain ⟨hz, _, _, hf, hl⟩ := hn
  have hm : ∀ q ∈ (refDays x).1.filter (keepW w), ∃ d, 0 ≤ d ∧ d ≤ 4000 ∧ refDay x d = some q := fun q hq => by
    have := (List.mem_filter.1 hq).1
    rw [refDays_eq] at this
    obtain ⟨d, hd, e⟩ := List.mem_filterMap.1 this
    have := mem_span.1 hd
    exact ⟨d, by omega, by omega, e⟩
  have hwf : ∀ q ∈ (refDays x).1.filter (keepW w), WF WY3 q := fun q hq => by
    obtain ⟨d, d1, d2, e⟩ := hm q hq
    obtain ⟨f1, f2, f3, f4⟩ := refDay_of e
    simp only [WF, WFs, and_true]
    rw [f1, f2, f3, f4]
    refine ⟨?_, h1, h2, h3⟩
    unfold idOf
    have hw10 : IntKind.i64.wrap ((10000 : Int) + d) = 10000 + d := wrap_ok (by omega) (by omega)
    have hns := numeral_size (10000 + d) (by omega) (by omega)
    have hz1 : (ByteArray.mk #[45]).size = 1 := rfl
    rw [hw10, ByteArray.size_append, ByteArray.size_append, ByteArray.size_extract, hz1]
    omega
  have hfl : ((refDays x).1.filter (keepW w)).length ≤ 4001 := Nat.le_trans (List.length_filter_le _ _) hlen
  obtain ⟨v, e1, _, _⟩ := sortF_total (T := WY3) (cmp := s65) hwf (Nat.lt_of_le_of_lt hfl (by decide)) (s65_ok.mono fun _ _ => trivial)
  refine ⟨v, e1, ?_⟩
  exact Eq.trans (sortF_congr (T := WY3) (c1 := s65) (c2 := s81) fun a ha b hb => by
    obtain ⟨_, _, _, ea⟩ := hm a ha
    obtain ⟨_, _, _, eb⟩ := hm b hb
    exact s81_eq (refDay_ready ea) (refDay_ready eb)).symm e1
end Go.Vm
