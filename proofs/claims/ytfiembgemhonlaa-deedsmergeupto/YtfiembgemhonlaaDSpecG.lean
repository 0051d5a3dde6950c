/- DeedsMerge: both ways come to the same. Own work. -/
import Derived.Test.YtfiembgemhonlaaDSpecF
set_option linter.unusedVariables false
set_option linter.unusedSimpArgs false
namespace Go.Vm
open Go.RowKit Go.Vm.Gain
/-! ### what counts -/
def ofKind (kind : Int) (o : Option Dd) : Option Dd := match o with
  | some d => if dKind d = kind then some d else none
  | none => none
theorem append_inj (p a b : ByteArray) : p ++ a = p ++ b ↔ a = b := by
  constructor
  · intro h
    have h2 : (p ++ a).data.toList = (p ++ b).data.toList := by rw [h]
    simp only [ByteArray.data_append, Array.toList_append] at h2
    exact bytes_of (List.append_cancel_left h2)
  · intro h; rw [h]
theorem car_ride (a b : ByteArray) : sCar ++ a ≠ sRide ++ b := by
  intro h
  have h2 : (sCar ++ a).data.toList = (sRide ++ b).data.toList := by rw [h]
  simp only [ByteArray.data_append, Array.toList_append] at h2
  have h3 := congrArg List.head? h2
  simp [sCar, sRide] at h3
theorem str_ne {a b : ByteArray} (h : a ≠ b) : strEq a b = false := eq_ne str_iff h
theorem str_pre (p a b : ByteArray) : strEq (p ++ a) (p ++ b) = strEq a b := by
  by_cases h : a = b
  · rw [h, (str_iff _ _).2 rfl, (str_iff _ _).2 rfl]
  · rw [str_ne h, str_ne (fun e => h ((append_inj p a b).1 e))]
/-- of each car the last word, if it is that it is there -/
theorem car_rel (at_ : Int) : ∀ (l : List Dd), (∀ d ∈ l, dFault d = 0) → ∀ (c c' : DMp), (mkeys c.1).Nodup → (∀ k, mfind strEq k c.1 = ofKind 1 (mfind strEq (sCar ++ k) c'.1)) →
    ∀ k, mfind strEq k (l.foldl (fun c d => carS at_ d c) c).1 = ofKind 1 (mfind strEq (sCar ++ k) (l.foldl (fun c d => cntS at_ d c) c').1)
  | [], _, c, c', _, h => h
  | d :: l, hd, c, c', hn, h => by
    simp only [List.foldl_cons]
    have hk := (small_of (hd d (by simp))).2
    refine car_rel at_ l (fun x hx => hd x (by simp [hx])) _ _ ?_ ?_
    · unfold carS
      cases decide (dAt d > at_)
      · cases dKind d == 1
        · cases dKind d == 2
          · exact hn
          · exact keys_mdel _ _ hn
        · exact keys_mput str_iff _ _ _ hn
      · exact hn
    · intro k
      unfold carS cntS
      by_cases ha : dAt d > at_
      · rw [decide_eq_true ha, decide_eq_false (by omega)]
        exact h k
      · rw [decide_eq_false ha, decide_eq_true (by omega : dAt d ≤ at_), cond_false, cond_true]
        rw [mfind_mput str_iff]
        by_cases k1 : dKind d = 1
        · have e : about d = sCar ++ (dCar d).1 := by unfold about; rw [k1]; rfl
          rw [show (dKind d == 1) = true from by simp [k1], cond_true, mfind_mput str_iff, e, str_pre]
          cases strEq k (dCar d).1
          · exact h k
          · simp [ofKind, k1]
        · rw [show (dKind d == 1) = false from by simp [k1], cond_false]
          by_cases k2 : dKind d = 2
          · have e : about d = sCar ++ dKey d := by unfold about; rw [k2]; rfl
            rw [show (dKind d == 2) = true from by simp [k2], cond_true, mfind_mdel str_iff _ _ _ hn, e, str_pre]
            cases strEq k (dKey d)
            · exact h k
            · simp [ofKind, k2]
          · rw [show (dKind d == 2) = false from by simp [k2], cond_false]
            have e : strEq (sCar ++ k) (about d) = false := by
              unfold about
              rw [show (dKind d == 1) = false from by simp [k1], show (dKind d == 2) = false from by simp [k2]]
              cases dKind d == 3
              · exact str_ne (car_ride _ _)
              · exact str_ne (car_ride _ _)
            rw [e]
            exact h k
/-- of each ride the last word, if it is that it is asked for -/
theorem ask_rel (at_ : Int) : ∀ (l : List Dd), (∀ d ∈ l, dFault d = 0) → ∀ (c : RMp) (c' : DMp), (mkeys c.1).Nodup → (∀ k, mfind strEq k c.1 = (ofKind 3 (mfind strEq (sRide ++ k) c'.1)).map dRide) →
    ∀ k, mfind strEq k (l.foldl (fun c d => askS at_ d c) c).1 = (ofKind 3 (mfind strEq (sRide ++ k) (l.foldl (fun c d => cntS at_ d c) c').1)).map dRide
  | [], _, c, c', _, h => h
  | d :: l, hd, c, c', hn, h => by
    simp only [List.foldl_cons]
    have hk := (small_of (hd d (by simp))).2
    refine ask_rel at_ l (fun x hx => hd x (by simp [hx])) _ _ ?_ ?_
    · unfold askS
      cases decide (dAt d > at_)
      · cases dKind d == 3
        · cases dKind d == 4
          · exact hn
          · exact keys_mdel _ _ hn
        · exact keys_mput str_iff _ _ _ hn
      · exact hn
    · intro k
      unfold askS cntS
      by_cases ha : dAt d > at_
      · rw [decide_eq_true ha, decide_eq_false (by omega)]
        exact h k
      · rw [decide_eq_false ha, decide_eq_true (by omega : dAt d ≤ at_), cond_false, cond_true]
        rw [mfind_mput str_iff]
        by_cases k3 : dKind d = 3
        · have e : about d = sRide ++ (dRide d).1 := by unfold about; rw [k3]; rfl
          rw [show (dKind d == 3) = true from by simp [k3], cond_true, mfind_mput str_iff, e, str_pre]
          cases strEq k (dRide d).1
          · exact h k
          · simp [ofKind, k3]
        · rw [show (dKind d == 3) = false from by simp [k3], cond_false]
          by_cases k4 : dKind d = 4
          · have e : about d = sRide ++ dKey d := by unfold about; rw [k4]; rfl
            rw [show (dKind d == 4) = true from by simp [k4], cond_true, mfind_mdel str_iff _ _ _ hn, e, str_pre]
            cases strEq k (dKey d)
            · exact h k
            · simp [ofKind, k4]
          · rw [show (dKind d == 4) = false from by simp [k4], cond_false]
            have e : strEq (sRide ++ k) (about d) = false := by
              unfold about
              have : dKind d = 1 ∨ dKind d = 2 := by omega
              rcases this with k1 | k2
              · rw [k1]; exact str_ne (fun e => car_ride _ _ e.symm)
              · rw [k2]; exact str_ne (fun e => car_ride _ _ e.symm)
            rw [e]
            exact h k
theorem ofKind_some {kind : Int} {o : Option Dd} {d : Dd} : ofKind kind o = some d ↔ o = some d ∧ dKind d = kind := by
  unfold ofKind
  cases o with
  | none => simp
  | some e =>
    simp only [Option.some.injEq]
    by_cases h : dKind e = kind
    · rw [if_pos h]
      constructor
      · intro h2; cases h2; exact ⟨rfl, h⟩
      · intro h2; rw [h2.1]
    · rw [if_neg h]
      constructor
      · intro h2; cases h2
      · rintro ⟨rfl, h2⟩; exact absurd h2 h
theorem about_car {d : Dd} (h : dKind d = 1) : about d = sCar ++ (dCar d).1 := by unfold about; rw [h]; rfl
theorem about_ask {d : Dd} (h : dKind d = 3) : about d = sRide ++ (dRide d).1 := by unfold about; rw [h]; rfl
theorem cnts_mem (kind at_ : Int) (l : List Dd) (d : Dd) : d ∈ cnts kind at_ l ↔ mfind strEq (about d) (cntM at_ l).1 = some d ∧ dKind d = kind := by
  have hI := cntM_inv at_ l
  unfold cnts
  rw [List.mem_filter, vals_mem str_iff about hI.nd hI.key]
  simp
theorem cnts_nd (kind at_ : Int) (l : List Dd) : (cnts kind at_ l).Nodup := by
  have hI := cntM_inv at_ l
  exact (vals_nodup about hI.nd hI.key).filter _
theorem cars_perm (at_ : Int) (l : List Dd) (h : ∀ d ∈ l, dFault d = 0) : (mvals (carM at_ l).1).Perm (cnts 1 at_ l) := by
  have hI := carM_inv at_ l
  refine perm_of_mem (vals_nodup (fun d => (dCar d).1) hI.nd hI.key) (cnts_nd 1 at_ l) (fun d => ?_)
  rw [vals_mem str_iff (fun d => (dCar d).1) hI.nd hI.key, cnts_mem]
  have hr := car_rel at_ l h ([], 0) ([], 0) (by simp) (fun k => rfl) (dCar d).1
  unfold carM cntM
  rw [hr, ofKind_some]
  constructor
  · rintro ⟨h1, h2⟩; exact ⟨by rw [about_car h2]; exact h1, h2⟩
  · rintro ⟨h1, h2⟩; exact ⟨by rw [← about_car h2]; exact h1, h2⟩
theorem asks_perm (at_ : Int) (l : List Dd) (h : ∀ d ∈ l, dFault d = 0) : (mvals (askM at_ l).1).Perm ((cnts 3 at_ l).map dRide) := by
  have hI := askM_inv at_ l
  have hC := cntM_inv at_ l
  have hinj : ∀ a ∈ cnts 3 at_ l, ∀ b ∈ cnts 3 at_ l, dRide a = dRide b → a = b := fun a ha b hb hab => by
    have h1 := (cnts_mem 3 at_ l a).1 ha
    have h2 := (cnts_mem 3 at_ l b).1 hb
    rw [about_ask h1.2, hab, ← about_ask h2.2, h2.1] at h1
    exact (Option.some.inj h1.1).symm
  refine perm_of_mem (vals_nodup (fun r : Rd => r.1) hI.nd hI.key) ?_ (fun r => ?_)
  · refine List.pairwise_map.2 ((cnts_nd 3 at_ l).imp_of_mem (fun {a b} ha hb hab e => hab (hinj a ha b hb e)))
  rw [vals_mem str_iff (fun r : Rd => r.1) hI.nd hI.key]
  have hr := ask_rel at_ l h ([], 0) ([], 0) (by simp) (fun k => rfl) r.1
  unfold askM
  rw [hr, List.mem_map, Option.map_eq_some_iff]
  constructor
  · rintro ⟨d, h1, h2⟩
    rw [ofKind_some] at h1
    refine ⟨d, (cnts_mem 3 at_ l d).2 ⟨?_, h1.2⟩, h2⟩
    rw [about_ask h1.2, h2]
    exact h1.1
  · rintro ⟨d, h1, h2⟩
    have h3 := (cnts_mem 3 at_ l d).1 h1
    refine ⟨d, ?_, h2⟩
    rw [ofKind_some]
    refine ⟨?_, h3.2⟩
    rw [← h2, ← about_ask h3.2]
    exact h3.1
theorem cnts_len (kind at_ : Int) (l : List Dd) : (cnts kind at_ l).length ≤ l.length := by
  have h1 := (cntM_inv at_ l).len
  have h2 : (cnts kind at_ l).length ≤ (mvals (cntM at_ l).1).length := List.length_filter_le _ _
  rw [vals_len] at h2
  omega
theorem cnts_src (kind at_ : Int) (l : List Dd) : ∀ d ∈ cnts kind at_ l, d ∈ l := fun d hd => by
  obtain ⟨e, he, rfl⟩ := List.mem_map.1 (List.mem_filter.1 hd).1
  exact (cntM_inv at_ l).src e he
theorem cnts_inj (kind at_ : Int) (l : List Dd) : ∀ a ∈ cnts kind at_ l, ∀ b ∈ cnts kind at_ l, cmpA a b = 0 → a = b := fun a ha b hb h =>
  (cntM_inv at_ l).inj (List.mem_filter.1 ha).1 (List.mem_filter.1 hb).1 (cmpS_zero.1 h)
/-- the cars -/
theorem cars_same (at_ : Int) (l : List Dd) (h : ∀ d ∈ l, dFault d = 0) (hw : ∀ d ∈ l, WF TD0 d) (hl : l.length ≤ 1000) : sortF TD0 s230 (mvals (carM at_ l).1) = sortF TD0 cmpA (cnts 1 at_ l) :=
  sortF_perm (T := TD0) (c1 := cmpA) (c2 := s230) (cars_perm at_ l h).symm (fun x hx => hw x (cnts_src 1 at_ l x hx)) (Nat.lt_of_le_of_lt (cnts_len 1 at_ l) (by omega)) (about_ok.mono fun _ _ => trivial)
    (fun a ha b hb => by
      unfold cmpA
      rw [about_car ((cnts_mem 1 at_ l a).1 ha).2, about_car ((cnts_mem 1 at_ l b).1 hb).2, cmpS_pre]
      rfl) (cnts_inj 1 at_ l)
/-- the rides -/
theorem asks_same (at_ : Int) (l : List Dd) (h : ∀ d ∈ l, dFault d = 0) (hw : ∀ d ∈ l, WF TD0 d) (hl : l.length ≤ 1000) : ∃ v : List Dd, sortF TD0 cmpA (cnts 3 at_ l) = some v ∧ sortF TR0 s232 (mvals (askM at_ l).1) = some (v.map dRide) ∧ v.length ≤ 1000 := by
  have hlen := cnts_len 3 at_ l
  have hI := askM_inv at_ l
  have hv : ∃ v : List Dd, sortF TD0 cmpA (cnts 3 at_ l) = some v ∧ v.Perm (cnts 3 at_ l) ∧ v.Pairwise fun a b => cmpA a b ≤ 0 := sortF_total (T := TD0) (cmp := cmpA) (xs := cnts 3 at_ l) (fun x hx => hw x (cnts_src 3 at_ l x hx)) (Nat.lt_of_le_of_lt hlen (by omega)) (about_ok.mono fun _ _ => trivial)
  have hu : ∃ u : List Rd, sortF TR0 s232 (mvals (askM at_ l).1) = some u ∧ u.Perm (mvals (askM at_ l).1) ∧ u.Pairwise fun a b => s232 a b ≤ 0 := sortF_total (T := TR0) (cmp := s232) (xs := mvals (askM at_ l).1) (fun x hx => by
    obtain ⟨e, he, rfl⟩ := List.mem_map.1 hx
    obtain ⟨d, hd, hde⟩ := List.mem_map.1 (hI.src e he)
    rw [← hde]
    exact wf_ride (hw _ hd)) (by have h1 := hI.len; have h2 := vals_len (askM at_ l).1; exact Nat.lt_of_le_of_lt (Nat.le_of_eq h2) (by omega)) (ride_ok.mono fun _ _ => trivial)
  obtain ⟨v, h1, h2, h3⟩ := hv
  obtain ⟨u, k1, k2, k3⟩ := hu
  refine ⟨v, h1, ?_, Nat.le_trans (Nat.le_of_eq h2.length_eq) (Nat.le_trans hlen hl)⟩
  rw [k1]
  congr 1
  have hp : u.Perm (v.map dRide) := k2.trans ((asks_perm at_ l h).trans (h2.map dRide).symm)
  refine sorted_unique (r := fun a b => s232 a b ≤ 0) hp (fun a ha b hb g1 g2 => ?_) k3 ?_
  · have e1 := (ride_ok.flip_le trivial trivial).1 g1
    have e2 := (ride_ok.flip_le trivial trivial).1 g2
    have : cmpS a.1 b.1 = 0 := by unfold s232 at g1 g2; omega
    exact hI.inj (k2.mem_iff.1 ha) (k2.mem_iff.1 hb) (cmpS_zero.1 this)
  · rw [List.pairwise_map]
    refine h3.imp_of_mem (fun {a b} ha hb hab => ?_)
    have a3 := ((cnts_mem 3 at_ l a).1 (h2.mem_iff.1 ha)).2
    have b3 := ((cnts_mem 3 at_ l b).1 (h2.mem_iff.1 hb)).2
    unfold cmpA at hab
    rw [about_ask a3, about_ask b3, cmpS_pre] at hab
    exact hab
end Go.Vm
