/- Vm, part 18: regions that draw their order are right. Own work. -/
import Derived.Test.YtfiembgemhonlaaVmDraw
set_option linter.unusedVariables false
set_option linter.unusedSimpArgs false
namespace Go.Vm
open Go.RowKit
section
variable {P : Program} {E : Env} {c : Cx} {S : St} {μ : Nat → Value} {a : Act} {w : World} {o : Oper} {al n : Nat} {ds : List Nat} {ρ : Type} {r : ρ} {next : Act → World → Prop} {Q : Exit → Act → World → Prop}
/-! ### A quiet operation -/
theorem quietD (hE : EnvOK P E) {A0 : Nat → Prop} (hs : Slots w A0 S.ob μ S.slots a) (hO : Objs w A0 S.ob μ) (hf : Fresh S al) {v : PV} {b : Option OB} (h : evQuiet E o S al (fun v b => some (v, b)) = some (v, b))
    (hnext : ∀ val w', Keep None w w' → (match b with
      | none => VR w' A0 S.ob μ v val
      | some b => ∃ mv, (∀ x, blkOf mv = some x → w.heap.size ≤ x ∧ x < w'.heap.size) ∧ OR w' (addA A0 mv) (upd S.ob al b) (upd μ al mv) al ∧ VR w' (addA A0 mv) (upd S.ob al b) (upd μ al mv) v val) → next (a.put o.dst val) w') : o.wp P a w next Q := by
  have hpp : evP E o S al (fun v b => some (v, b)) = some (v, b) → o.wp P a w next Q := fun h => by
    obtain ⟨pv, nb, hk, val, w', hrun, hkeep, hv⟩ := evP_sound hE.1 hs hO (fun _ _ _ => hf) h
    simp only [Option.some.injEq, Prod.mk.injEq] at hk
    obtain ⟨rfl, rfl⟩ := hk
    exact wp_value hrun (hnext val w' hkeep hv)
  unfold evQuiet at h
  split at h
  · rename_i c0 hop
    split at h
    · rename_i g hc
      obtain ⟨as, h1, h⟩ := optK_some h
      obtain ⟨h2, h⟩ := cond_some h
      let A : Nat → Prop := fun x => A0 x ∧ ∀ o' ∈ shownIn (E.call g).modes (c0.args.toList.map (opd S)), blkOf (μ o') ≠ some x
      have hA : ∀ x, A x → A0 x := fun x hx => hx.1
      have hargs : TRs w A S.ob μ as (c0.args.toList.map a.eval) := showArgs_sound hO hA _ _ _ _ h1 (hs.trs _) (fun o' ho' x hx hAx => hAx.2 o' ho' hx)
      have hoid : PV.oidsL as = [] := List.isEmpty_iff.1 h2
      have hargs' : TRs w A (obs []) μ as (c0.args.toList.map a.eval) :=
        TRs.later (Keep.refl None w) (fun _ _ h => h) (fun _ h => h.elim) as (fun x hx => by rw [hoid] at hx; cases hx) _ hargs
      have hd : ∀ i, obs [] i = .dead := fun i => rfl
      have hlie : Objs w A (obs []) μ := ⟨fun i => by unfold OR; rw [hd]; trivial, fun i _ _ h _ _ _ => (by rw [hd] at h; cases h), fun x hx => (by obtain ⟨i, hx, _⟩ := hx; rw [hd] at hx; cases hx), fun x hx => hO.old x (hA x hx)⟩
      obtain ⟨hen, hcalls⟩ := hE.2 g as [] _ _ h
      have hcalls := hcalls w A μ _ hlie hargs'
      have hrun : (execOp a.eval o).run P w = .ok (.enter g (c0.args.map a.eval)) w := by
        have e : a.eval (.func g) = .func (.func g) #[] #[] := rfl
        simp only [execOp, hop, resolve, hc, e, Deferred.ofValue, invoke, Sem.run_bind, Sem.run_pure, Result.andThen]
        rw [← hen (c0.args.map a.eval) w]
        simp [invoke]
      simp only [Oper.wp, hrun, Oper.upon_enter]
      have e : (c0.args.toList.map a.eval).toArray = c0.args.map a.eval := by apply Array.ext'; simp
      rw [e] at hcalls
      refine hcalls.mono ?_
      rintro e w' ⟨val, res, objs', μ', rfl, hk, hp⟩
      obtain ⟨hsl, hk2⟩ := cond_some hk
      clear hk
      simp only [Bool.or_eq_true, Bool.and_eq_true] at hsl
      have hkeep : Keep None w w' := hp.keep.mono (fun x _ hx => by obtain ⟨i, hx, _⟩ := hx; rw [hd] at hx; cases hx)
      refine hnext val w' hkeep ?_
      have hA0 : (shownIn (E.call g).modes (c0.args.toList.map (opd S))).isEmpty = true → ∀ x, A0 x → A x := fun he x hx => ⟨hx, fun o' ho' => by rw [List.isEmpty_iff.1 he] at ho'; cases ho'⟩
      split at hk2
      · obtain ⟨hv, hk⟩ := cond_some hk2
        simp only [Option.some.injEq, Prod.mk.injEq] at hk
        obtain ⟨rfl, rfl⟩ := hk
        simp only
        have hv' : res.oids = [] := List.isEmpty_iff.1 hv
        have hr := hp.res
        rcases hsl with he | ⟨hs1, _⟩
        · exact VR.later (Keep.refl None w') (fun x _ hx => .inl (hA0 he x hx)) (fun _ h => h.elim) (fun x hx => by rw [hv'] at hx; cases hx) hr
        · exact VR.later (Keep.refl None w') (fun x _ hx => hx) (fun _ h => h.elim) (fun x hx => by rw [hv'] at hx; cases hx) (VR.flat (A' := A0) hs1 hr)
      · rename_i nb
        obtain ⟨hv, hk⟩ := cond_some hk2
        simp only [Option.some.injEq, Prod.mk.injEq] at hk
        obtain ⟨rfl, rfl⟩ := hk
        simp only [Bool.and_eq_true] at hv
        obtain ⟨hna, hv1, hv2⟩ := hv
        rw [boundL_iff] at hv1 hv2
        simp only
        have hob0 : obs [nb] 0 = nb := rfl
        have hmoved : ∀ x, x < 1 → Moved (obs [nb]) μ' (upd S.ob al (nb.ren fun _ => al)) (upd μ al (μ' 0)) x al := fun x hx => by
          have : x = 0 := by omega
          subst this
          unfold Moved
          rw [upd_same, upd_same, hob0]
          cases nb <;> simp [OB.ren]
        have hown : ∀ x, own (obs [nb]) μ' x ↔ blkOf (μ' 0) = some x := fun x => ⟨fun h => by
          obtain ⟨i, h1, h2⟩ := h
          have := obs_len h1
          have : i = 0 := by simpa using this
          subst this; exact h2, fun h => ⟨0, hna, h⟩⟩
        refine ⟨μ' 0, fun x hx => ⟨?_, hp.lie.old x (.inr ((hown x).2 hx))⟩, ?_, ?_⟩
        · rcases hp.mine x ((hown x).2 hx) with h | h
          · obtain ⟨i, h, _⟩ := h; rw [hd] at h; cases h
          · exact h
        · have h0 : OR w' (addA A0 (μ' 0)) (obs [nb]) μ' 0 := by
            rcases hsl with he | ⟨_, hs2⟩
            · exact (hp.lie.each 0).later (Keep.refl None w') (fun x _ hx => hx.imp (hA0 he x) (hown x).2) (fun _ h => h.elim) (.inl rfl) (fun _ => rfl) (fun x ha hx => ⟨fun h => h.elim, hp.lie.old x (.inr ((hown x).2 hx))⟩) (fun x _ => Later.refl _ _ x)
            · exact OR.flat (noSl_obs hs2 0) (hp.lie.each 0)
          exact OR.ren (fun _ => al) h0 (by rw [upd_same, hob0]) (by rw [upd_same]) (fun x hx => hmoved x (hv2 x (by rw [hob0] at hx; exact hx)))
        · have h0 : VR w' (addA A0 (μ' 0)) (obs [nb]) μ' res val := by
            rcases hsl with he | ⟨hs1, _⟩
            · exact VR.later (Keep.refl None w') (fun x _ hx => hx.imp (hA0 he x) (hown x).2) (fun _ h => h.elim) (fun x _ => Later.refl _ _ x) hp.res
            · exact VR.flat hs1 hp.res
          exact VR.ren (fun _ => al) (fun x hx => hmoved x (hv1 x hx)) h0
      · cases hk2
    · exact hpp h
  · exact hpp h

/-! ### What the checks say -/
theorem okOid_iff {base n j : Nat} {bs : List Nat} : ∀ {l : List Nat}, okOid base n j bs l = true ↔ ∀ x ∈ l, vis base n bs x = true ∨ x = base + j
  | [] => by simp [okOid]
  | x :: l => by
    simp only [okOid, Bool.and_eq_true, okOid_iff (l := l), List.mem_cons, forall_eq_or_imp, vis, Bool.or_eq_true]
    refine and_congr ?_ Iff.rfl
    have : (Nat.beq x (base + j) = true) ↔ x = base + j := by simp
    rw [this]
    constructor
    · rintro (h | h | h | h) <;> simp [h]
    · rintro ((h | h | h) | h) <;> simp [h]
theorem okPast_iff {lo hi : Nat} : ∀ {l : List Nat}, okPast lo hi l = true ↔ ∀ x ∈ l, x ≤ lo ∨ hi ≤ x
  | [] => by simp [okPast]
  | x :: l => by simp [okPast, okPast_iff (l := l)]
theorem okPastO_iff {lo hi : Nat} : ∀ {l : List OB}, okPastO lo hi l = true ↔ ∀ b ∈ l, ∀ x ∈ b.oids, x ≤ lo ∨ hi ≤ x
  | [] => by simp [okPastO]
  | b :: l => by simp [okPastO, okPastO_iff (l := l), okPast_iff]
theorem deadFrom_iff {S : St} : ∀ {k i : Nat}, deadFrom S i k = true ↔ ∀ x, i ≤ x → x < i + k → S.ob x = .dead
  | 0, i => by simp only [deadFrom, true_iff]; intro x h1 h2; omega
  | k + 1, i => by
    have hd : (!(S.ob i).alive) = true ↔ S.ob i = .dead := by cases S.ob i <;> simp [OB.alive]
    simp only [deadFrom, Bool.and_eq_true, deadFrom_iff (k := k) (i := i + 1), hd]
    constructor
    · rintro ⟨h1, h2⟩ x h3 h4
      by_cases e : x = i
      · subst e; exact h1
      · exact h2 x (by omega) (by omega)
    · intro h
      exact ⟨h i (by omega) (by omega), fun x h1 h2 => h x (by omega) (by omega)⟩
theorem mem_foldl {bf : List (List Nat)} {x : Nat} : ∀ {l : List Edge} {r0 : List Nat}, x ∈ l.foldl (fun r e => e.on :: (bf.getD e.on [] ++ r)) r0 ↔ x ∈ r0 ∨ ∃ e ∈ l, x = e.on ∨ x ∈ bf.getD e.on []
  | [], r0 => by simp
  | e :: l, r0 => by
    rw [List.foldl_cons, mem_foldl (l := l)]
    simp only [List.mem_cons, List.mem_append, exists_eq_or_imp]
    constructor
    · rintro ((h | h | h) | h)
      · exact .inr (.inl (.inl h))
      · exact .inr (.inl (.inr h))
      · exact .inl h
      · exact .inr (.inr h)
    · rintro (h | (h | h) | h)
      · exact .inl (.inr (.inr h))
      · exact .inl (.inl h)
      · exact .inl (.inr (.inl h))
      · exact .inr h
theorem befores_prefix : ∀ (l : List Oper) (acc : List (List Nat)) (i : Nat), i < acc.length → (befores l acc)[i]? = acc[i]?
  | [], acc, i, h => rfl
  | o :: l, acc, i, h => by
    simp only [befores]
    rw [befores_prefix l _ i (by simp; omega), List.getElem?_append_left h]
theorem befores_spec : ∀ (l : List Oper) (acc : List (List Nat)) (i : Nat) (o : Oper), l[i]? = some o → ∀ x, x ∈ (befores l acc).getD (acc.length + i) [] ↔
    ∃ e ∈ o.after.toList, bindsAlways e = true ∧ (x = e.on ∨ (e.on < acc.length + i ∧ x ∈ (befores l acc).getD e.on []))
  | [], acc, i, o, h, x => by simp at h
  | p :: l, acc, 0, o, h, x => by
    simp only [List.getElem?_cons_zero, Option.some.injEq] at h
    subst h
    simp only [befores, Nat.add_zero]
    have e1 : ∀ k, k < acc.length + 1 → (befores l (acc ++ [(p.after.toList.filter bindsAlways).foldl (fun r e => e.on :: (acc.getD e.on [] ++ r)) []])).getD k [] = (acc ++ [(p.after.toList.filter bindsAlways).foldl (fun r e => e.on :: (acc.getD e.on [] ++ r)) []]).getD k [] := fun k hk => by
      simp only [List.getD]
      rw [befores_prefix l _ k (by simp; omega)]
    rw [e1 _ (by omega)]
    have e2 : (acc ++ [(p.after.toList.filter bindsAlways).foldl (fun r e => e.on :: (acc.getD e.on [] ++ r)) []]).getD acc.length [] = (p.after.toList.filter bindsAlways).foldl (fun r e => e.on :: (acc.getD e.on [] ++ r)) [] := by
      simp [List.getD]
    rw [e2, mem_foldl]
    simp only [List.not_mem_nil, false_or, List.mem_filter]
    constructor
    · rintro ⟨e, ⟨h1, h2⟩, h3⟩
      refine ⟨e, h1, h2, h3.imp id fun h4 => ?_⟩
      have hlt : e.on < acc.length := by
        rcases Nat.lt_or_ge e.on acc.length with h5 | h5
        · exact h5
        · have : acc[e.on]? = none := by simp; omega
          simp [List.getD, this] at h4
      refine ⟨hlt, ?_⟩
      rw [e1 _ (by omega)]
      simpa [List.getD, List.getElem?_append_left hlt] using h4
    · rintro ⟨e, h1, h2, h3⟩
      refine ⟨e, ⟨h1, h2⟩, h3.imp id fun ⟨hlt, h4⟩ => ?_⟩
      rw [e1 _ (by omega)] at h4
      simpa [List.getD, List.getElem?_append_left hlt] using h4
  | p :: l, acc, i + 1, o, h, x => by
    simp only [List.getElem?_cons_succ] at h
    simp only [befores]
    have := befores_spec l (acc ++ [(p.after.toList.filter bindsAlways).foldl (fun r e => e.on :: (acc.getD e.on [] ++ r)) []]) i o h x
    simp only [List.length_append, List.length_cons, List.length_nil] at this
    rw [show acc.length + (i + 1) = acc.length + (0 + 1) + i from by omega]
    exact this
theorem standsWith_spec {all : List Oper} {bf : List (List Nat)} {j : Nat} {o : Oper} : ∀ (l : List Oper) (i : Nat), standsWith E all bf j o i l = true → ∀ k p, l[k]? = some p → i + k < j →
    i + k ∈ bf.getD j [] ∨ (isQuiet E o = true ∧ isQuiet E p = true ∧ Indep all o p)
  | [], i, h, k, p, hk, hj => by simp at hk
  | q :: l, i, h, k, p, hk, hj => by
    simp only [standsWith] at h
    have hij : Nat.blt i j = true := by simp; omega
    simp only [hij, cond_true, Bool.and_eq_true] at h
    cases k with
    | zero =>
      simp only [List.getElem?_cons_zero, Option.some.injEq] at hk
      subst hk
      have h1 := h.1
      by_cases hm : mem i (bf.getD j []) = true
      · exact .inl (by rw [mem_iff] at hm; exact hm)
      · simp only [hm, cond_false, Bool.and_eq_true] at h1
        obtain ⟨⟨⟨g1, g2⟩, g3⟩, g4⟩ := h1
        refine .inr ⟨g1, g2, fun d hd => ?_, fun d hd => ?_, fun d hd hp => ?_⟩
        · rw [hd] at g3; simpa [mem_not] using g3
        · rw [hd] at g4; simp only [Bool.and_eq_true, Bool.not_eq_true', mem_not] at g4; exact g4.1
        · rw [hd, hp] at g4; simp at g4
    | succ k =>
      simp only [List.getElem?_cons_succ] at hk
      have := standsWith_spec l (i + 1) h.2 k p hk (by omega)
      rwa [show i + 1 + k = i + (k + 1) from by omega] at this
theorem drawOK_spec {all : List Oper} {bf : List (List Nat)} : ∀ (l : List Oper) (j : Nat), drawOK E all bf j l = true → ∀ k o, l[k]? = some o →
    (∀ x ∈ bf.getD (j + k) [], x < j + k) ∧ standsWith E all bf (j + k) o 0 all = true
  | [], j, h, k, o, hk => by simp at hk
  | p :: l, j, h, k, o, hk => by
    simp only [drawOK, Bool.and_eq_true, boundL_iff] at h
    cases k with
    | zero =>
      simp only [List.getElem?_cons_zero, Option.some.injEq] at hk
      subst hk
      exact h.1
    | succ k =>
      simp only [List.getElem?_cons_succ] at hk
      have := drawOK_spec l (j + 1) h.2 k o hk
      rwa [show j + 1 + k = j + (k + 1) from by omega] at this
end
end Go.Vm
