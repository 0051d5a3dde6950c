/- BonusesPaid: the last of what was done, as a map has it. Own work. -/
import Derived.Test.YtfiembgemhonlaaDoorUSpecG
set_option linter.unusedVariables false
set_option linter.unusedSimpArgs false
namespace Go.Vm
open Go.RowKit Go.Vm.Gain
abbrev Ml : Type := List (ByteArray × Dn × Nat) × Nat
def lPut (d : Dn) (m : Ml) : Ml := mput sEq (nRide d) d m
def stepM (w : ByteArray) (at_ : Int) (d : Dn) (m : Ml) : Ml := bif isMine w at_ d then lPut d m else m
structure Lin (m : Ml) (out : List Dn) : Prop where
  vals : mvals m.1 = out
  keys : mkeys m.1 = out.map nRide
theorem keqS (a b : ByteArray) : sEq a b = true ↔ a = b := sEq_iff
theorem mrep_last {k : ByteArray} {v : Dn} : ∀ (L : List (ByteArray × Dn × Nat)) (e : ByteArray × Dn × Nat), k ∉ mkeys L → k = e.1 → mrep sEq k v (L ++ [e]) = L ++ [(e.1, v, e.2.2)]
  | [], e, _, h => by
    have : sEq k e.1 = true := (keqS _ _).2 h
    show (bif sEq k e.1 then _ else _) = _
    rw [this]; rfl
  | x :: L, e, hk, h => by
    simp only [mkeys, List.map_cons, List.mem_cons, not_or] at hk
    have h1 : sEq k x.1 = false := by rw [← Bool.not_eq_true]; exact fun e => hk.1 ((keqS _ _).1 e)
    have := mrep_last (v := v) L e hk.2 h
    show (bif sEq k x.1 then _ else _ :: mrep sEq k v (L ++ [e])) = _
    rw [h1, this]; rfl
theorem lin_step {m : Ml} {out : List Dn} {d : Dn} (h : Lin m out) (hw : ∀ o ∈ out, nWho o = nWho d) (hp : out.Pairwise fun a b => cmpS (nRide a) (nRide b) < 0) (hle : ∀ o ∈ out, cmpS (nRide o) (nRide d) ≤ 0) :
    Lin (lPut d m) (stepN out d) := by
  obtain ⟨hv, hk⟩ := h
  have hadd : nRide d ∉ out.map nRide → Lin (lPut d m) (out ++ [d]) := fun hn => by
    have h1 : mhas sEq (nRide d) m.1 = false := by
      rw [← Bool.not_eq_true]
      intro e
      exact hn (hk ▸ (mhas_mem keqS _ _).1 e)
    unfold lPut mput
    rw [h1]
    refine ⟨?_, ?_⟩
    · show (m.1 ++ [(nRide d, d, m.2)]).map (fun x => x.2.1) = _
      rw [List.map_append]
      exact congrArg (· ++ [d]) hv
    · show (m.1 ++ [(nRide d, d, m.2)]).map (fun x => x.1) = _
      rw [List.map_append, List.map_append]
      exact congrArg (· ++ [nRide d]) hk
  unfold stepN
  rcases List.eq_nil_or_concat out with rfl | ⟨l', o, rfl⟩
  · exact hadd (by simp)
  · rw [List.concat_eq_append] at *
    have hl : (l' ++ [o]).getLast? = some o := by simp
    rw [hl]
    have how : nWho o = nWho d := hw o (by simp)
    have hpo := (List.pairwise_append.1 hp).2.2
    have hs : sameD o d = true ↔ nRide o = nRide d := by
      unfold sameD drCmp lexC
      rw [if_pos (cmpS_zero.2 how), beq_iff_eq]
      exact cmpS_zero
    simp only
    cases hc : sameD o d
    · simp only [cond_false]
      refine hadd ?_
      intro hm
      obtain ⟨x, hx, e⟩ := List.mem_map.1 hm
      have hne : nRide o ≠ nRide d := fun e => by rw [hs.2 e] at hc; cases hc
      have hod : cmpS (nRide o) (nRide d) < 0 := by
        have h1 := hle o (by simp)
        have h2 : cmpS (nRide o) (nRide d) ≠ 0 := fun e => hne (cmpS_zero.1 e)
        omega
      rcases List.mem_append.1 hx with hx | hx
      · have h1 := hpo x hx o (by simp)
        have h2 := cmpS_ok.lt_le (a := nRide x) (b := nRide o) (c := nRide d) trivial trivial trivial h1 (by omega)
        rw [e, cmpS_zero.2 rfl] at h2
        exact absurd h2 (by decide)
      · rw [List.mem_singleton] at hx
        subst hx
        exact hne e
    · have hr := hs.1 hc
      simp only [cond_true, List.dropLast_concat]
      obtain ⟨L, e, hL⟩ : ∃ L e, m.1 = L ++ [e] := by
        rcases List.eq_nil_or_concat m.1 with h0 | ⟨L, e, h0⟩
        · rw [h0] at hv
          simp at hv
        · exact ⟨L, e, by rw [h0, List.concat_eq_append]⟩
      rw [hL] at hv hk
      simp only [mvals, mkeys, List.map_append, List.map_cons, List.map_nil] at hv hk
      obtain ⟨hv1, hv2⟩ := List.append_inj' hv rfl
      obtain ⟨hk1, hk2⟩ := List.append_inj' hk rfl
      have he : e.1 = nRide o := by simpa using hk2
      have hnot : nRide d ∉ mkeys L := by
        show nRide d ∉ L.map (fun x => x.1)
        rw [hk1]
        intro hm
        obtain ⟨x, hx, e⟩ := List.mem_map.1 hm
        have := hpo x hx o (by simp)
        rw [hr, e, cmpS_zero.2 rfl] at this
        exact absurd this (by decide)
      have hh : mhas sEq (nRide d) m.1 = true := by
        rw [mhas_mem keqS, hL]
        simp [mkeys, he, hr]
      unfold lPut mput
      rw [hh, hL]
      show Lin (mrep sEq (nRide d) d (L ++ [e]), m.2) _
      rw [mrep_last L e hnot (by rw [he, hr])]
      refine ⟨?_, ?_⟩
      · simp only [mvals, List.map_append, List.map_cons, List.map_nil]
        rw [hv1]
      · simp only [mkeys, List.map_append, List.map_cons, List.map_nil]
        rw [hk1, he, hr]
theorem step_sub (out : List Dn) (d x : Dn) (h : x ∈ stepN out d) : x ∈ out ∨ x = d := by
  unfold stepN at h
  cases hl : out.getLast? with
  | none =>
    rw [hl] at h
    simpa using h
  | some o =>
    rw [hl] at h
    simp only at h
    cases hs : sameD o d <;> rw [hs] at h
    · simpa using h
    · simp only [cond_true, List.mem_append, List.mem_singleton] at h
      exact h.imp (fun h => (List.dropLast_sublist _).subset h) id
theorem step_pair {out : List Dn} {d : Dn} (hw : ∀ o ∈ out, nWho o = nWho d) (hp : out.Pairwise fun a b => cmpS (nRide a) (nRide b) < 0) (hle : ∀ o ∈ out, cmpS (nRide o) (nRide d) ≤ 0) :
    (stepN out d).Pairwise fun a b => cmpS (nRide a) (nRide b) < 0 := by
  unfold stepN
  rcases List.eq_nil_or_concat out with rfl | ⟨l', o, rfl⟩
  · simp
  · rw [List.concat_eq_append] at *
    have hl : (l' ++ [o]).getLast? = some o := by simp
    rw [hl]
    have how : nWho o = nWho d := hw o (by simp)
    obtain ⟨hp1, _, hpo⟩ := List.pairwise_append.1 hp
    have hs : sameD o d = true ↔ nRide o = nRide d := by
      unfold sameD drCmp lexC
      rw [if_pos (cmpS_zero.2 how), beq_iff_eq]
      exact cmpS_zero
    simp only
    cases hc : sameD o d
    · simp only [cond_false]
      refine List.pairwise_append.2 ⟨hp, by simp, fun x hx y hy => ?_⟩
      rw [List.mem_singleton] at hy
      subst hy
      have h2 : cmpS (nRide o) (nRide y) ≠ 0 := fun e => by rw [hs.2 (cmpS_zero.1 e)] at hc; cases hc
      have h1 := hle o (by simp)
      rcases List.mem_append.1 hx with hx | hx
      · exact cmpS_ok.lt_le (a := nRide x) (b := nRide o) (c := nRide y) trivial trivial trivial (hpo x hx o (by simp)) h1
      · rw [List.mem_singleton] at hx
        subst hx
        omega
    · have hr := hs.1 hc
      simp only [cond_true, List.dropLast_concat]
      refine List.pairwise_append.2 ⟨hp1, by simp, fun x hx y hy => ?_⟩
      rw [List.mem_singleton] at hy
      subst hy
      have := hpo x hx o (by simp)
      rw [hr] at this
      exact this
theorem lin_fold (w : ByteArray) : ∀ (F : List Dn) (m : Ml) (out : List Dn), Lin m out → (∀ o ∈ out, nWho o = w) → (∀ d ∈ F, nWho d = w) → out.Pairwise (fun a b => cmpS (nRide a) (nRide b) < 0) →
    F.Pairwise (fun a b => cmpS (nRide a) (nRide b) ≤ 0) → (∀ o ∈ out, ∀ d ∈ F, cmpS (nRide o) (nRide d) ≤ 0) → Lin (F.foldl (fun m d => lPut d m) m) (F.foldl stepN out)
  | [], m, out, h, _, _, _, _, _ => h
  | d :: F, m, out, h, h1, h2, h3, h4, h5 => by
    have hd : nWho d = w := h2 d (by simp)
    have g1 : ∀ o ∈ out, nWho o = nWho d := fun o ho => by rw [hd]; exact h1 o ho
    have g2 : ∀ o ∈ out, cmpS (nRide o) (nRide d) ≤ 0 := fun o ho => h5 o ho d (by simp)
    obtain ⟨k1, k2⟩ := List.pairwise_cons.1 h4
    rw [List.foldl_cons, List.foldl_cons]
    refine lin_fold w F _ _ (lin_step h g1 h3 g2) (fun o ho => ?_) (fun x hx => h2 x (by simp [hx])) (step_pair g1 h3 g2) k2 (fun o ho x hx => ?_)
    · rcases step_sub _ _ _ ho with ho | rfl
      · exact h1 o ho
      · exact hd
    · rcases step_sub _ _ _ ho with ho | rfl
      · exact h5 o ho x (by simp [hx])
      · exact k1 x hx
theorem foldl_stepM (w : ByteArray) (at_ : Int) : ∀ (l : List Dn) (m : Ml), l.foldl (fun m d => stepM w at_ d m) m = (l.filter (isMine w at_)).foldl (fun m d => lPut d m) m
  | [], m => rfl
  | d :: l, m => by
    rw [List.foldl_cons, foldl_stepM w at_ l]
    unfold stepM
    cases h : isMine w at_ d
    · rw [List.filter_cons_of_neg (by simp [h])]; rfl
    · rw [List.filter_cons_of_pos h, List.foldl_cons]; rfl
theorem lasts_lin {l : List Dn} (h : dnFaults l = 0) (w : ByteArray) (at_ : Int) : Lin (l.foldl (fun m d => stepM w at_ d m) ([], 0)) (lasts w at_ l) := by
  rw [foldl_stepM]
  have hs : l.Pairwise fun a b => dnCmp a b < 0 := by
    unfold dnFaults at h
    split at h
    · cases h
    · exact (chkP_sorted dnCmp_ok l none h).2
  have hmine : ∀ d ∈ l.filter (isMine w at_), nWho d = w := fun d hd => by
    have := (List.mem_filter.1 hd).2
    unfold isMine at this
    rw [Bool.and_eq_true] at this
    exact sEq_iff.1 this.1
  refine lin_fold w _ _ _ ⟨rfl, rfl⟩ (fun o ho => (by cases ho)) hmine List.Pairwise.nil ?_ (fun o ho => (by cases ho))
  refine List.Pairwise.imp_of_mem (fun {a b} ha hb hab => ?_) (hs.sublist List.filter_sublist)
  unfold dnCmp lexC drCmp lexC at hab
  simp only [cmpS_zero.2 ((hmine a ha).trans (hmine b hb).symm), if_true] at hab
  split at hab
  · rename_i h0
    omega
  · omega
end Go.Vm
