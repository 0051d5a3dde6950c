/- Vm, part 19: regions are right. Own work. -/
import Derived.Test.YtfiembgemhonlaaVmDrawS
set_option linter.unusedVariables false
set_option linter.unusedSimpArgs false
namespace Go.Vm
open Go.RowKit
section
variable {P : Program} {E : Env} {c : Cx} {S : St} {μ : Nat → Value} {a : Act} {w : World} {o : Oper} {al n : Nat} {ds : List Nat} {ρ : Type} {r : ρ} {K : St → Option ρ} {next : Act → World → Prop} {Q : Exit → Act → World → Prop}
theorem oidsL_set {l : List PV} {t : Nat} {v : PV} {x : Nat} (h : x ∈ PV.oidsL (l.set t v)) : x ∈ PV.oidsL l ∨ x ∈ v.oids := by
  induction l generalizing t with
  | nil => simp [PV.oidsL] at h
  | cons u l ih =>
    cases t with
    | zero => simp only [List.set_cons_zero, PV.oidsL, List.mem_append] at h ⊢; rcases h with h | h; exact .inr h; exact .inl (.inr h)
    | succ t => simp only [List.set_cons_succ, PV.oidsL, List.mem_append] at h ⊢; rcases h with h | h; exact .inl (.inl h); exact (ih h).imp .inr id
structure Inv (base N : Nat) (L : Nat → Bool) (S : St) : Prop where
  len : base + N ≤ S.objs.length
  slots : ∀ x ∈ PV.oidsL S.slots, x < base ∨ base + N ≤ x ∨ ∃ k, x = base + k ∧ L k = true
  objs : ∀ b ∈ S.objs, ∀ x ∈ b.oids, x < base ∨ base + N ≤ x ∨ ∃ k, x = base + k ∧ L k = true
  dead : ∀ k, k < N → L k = false → S.ob (base + k) = .dead
theorem Inv.fresh {base N : Nat} {L : Nat → Bool} (h : Inv base N L S) {i : Nat} (hi : i < N) (hL : L i = false) : Fresh S (base + i) := by
  have no : ¬ (base + i < base ∨ base + N ≤ base + i ∨ ∃ k, base + i = base + k ∧ L k = true) := by
    rintro (h | h | ⟨k, h1, h2⟩)
    · omega
    · omega
    · have : k = i := by omega
      subst this; rw [hL] at h2; cases h2
  exact ⟨h.dead i hi hL, fun hx => no (h.slots _ hx), fun o hx => by obtain ⟨b, hb, hx⟩ := ob_oids_mem hx; exact no (h.objs b hb _ hx)⟩
theorem Res.inv {all : List Oper} {bf : List (List Nat)} {base i : Nat} {L : Nat → Bool} {v : PV} {b : Option OB} (h : Inv base all.length L S) (hi : i < all.length) (hbs : ∀ k ∈ bf.getD i [], L k = true) (hr : Res E all bf base i o S v b) :
    Inv base all.length (addL L i) (S.add (base + i) o.dst v b) := by
  have hlen : base + i < S.objs.length := by have := h.len; omega
  have old : ∀ x, (x < base ∨ base + all.length ≤ x ∨ ∃ k, x = base + k ∧ L k = true) → x < base ∨ base + all.length ≤ x ∨ ∃ k, x = base + k ∧ addL L i k = true := fun x hx =>
    hx.imp id (Or.imp id fun ⟨k, h1, h2⟩ => ⟨k, h1, by simp [addL, h2]⟩)
  have new : ∀ x ∈ v.oids ++ obOids b, x < base ∨ base + all.length ≤ x ∨ ∃ k, x = base + k ∧ addL L i k = true := by
    intro x hx
    obtain ⟨_, ⟨_, rfl, rfl⟩ | ⟨_, _, hok⟩⟩ := hr
    · simp [PV.oids, obOids] at hx
    · rw [okOid_iff] at hok
      rcases hok x hx with hv | rfl
      · simp only [vis, Bool.or_eq_true, mem_iff] at hv
        rcases hv with hv | hv | hv
        · exact .inl (by simpa using hv)
        · exact .inr (.inl (by simpa using hv))
        · rcases Nat.lt_or_ge x base with h1 | h1
          · exact .inl h1
          · exact .inr (.inr ⟨x - base, by omega, by simp [addL, hbs _ hv]⟩)
      · exact .inr (.inr ⟨i, rfl, addL_same L i⟩)
  refine ⟨by rw [add_len hlen]; exact h.len, fun x hx => ?_, fun b' hb' x hx => ?_, fun k hk hLk => ?_⟩
  · rw [add_slots] at hx
    cases hd : o.dst with
    | none => rw [hd] at hx; exact old x (h.slots x hx)
    | some t =>
      rw [hd] at hx
      rcases oidsL_set hx with hx | hx
      · exact old x (h.slots x hx)
      · exact new x (by simp [hx])
  · rw [add_objs hlen] at hb'
    cases b with
    | none => exact old x (h.objs b' hb' x hx)
    | some b =>
      rcases List.mem_or_eq_of_mem_set hb' with hb' | rfl
      · exact old x (h.objs b' hb' x hx)
      · exact new x (by simp [obOids, hx])
  · have hne : k ≠ i := fun e => by subst e; rw [addL_same] at hLk; cases hLk
    rw [addL_other L hne] at hLk
    have := h.dead k hk hLk
    simp only [St.ob, List.getD, add_objs hlen] at this ⊢
    cases b with
    | none => exact this
    | some b => simp only [List.getElem?_set]; rw [if_neg (by omega)]; exact this
/-- a quiet operation that may be next -/
theorem quiet_pick (hE : EnvOK P E) {ops : Array Oper} {bf : List (List Nat)} {base i : Nat} {L : Nat → Bool} {v : PV} {b : Option OB} (hsr : SR c S μ a w) (h : Inv base ops.toList.length L S) (hi : i < ops.toList.length) (hL : L i = false)
    (hr : Res E ops.toList bf base i o S v b) (hd : ∀ t, o.dst = some t → t ∈ ds) (hn : n ≤ base)
    (hnext : ∀ μ' a' w', SR c (S.add (base + i) o.dst v b) μ' a' w' → Ag n ds S μ (S.add (base + i) o.dst v b) μ' → next a' w') :
    if Region.wanted o (yielded ops a.tmps) then o.wp P a w next Q ∨ (o.asks P a w ∧ LetsOut Q) else next (a.put o.dst Go.undef) w := by
  have hlen : base + i < S.objs.length := by have := h.len; omega
  have hfr := h.fresh hi hL
  rw [wanted_known hsr hr.1]
  obtain ⟨_, ⟨hw, rfl, rfl⟩ | ⟨hw, hq, hok⟩⟩ := hr
  · rw [hw]
    simp only [Bool.false_eq_true, if_false]
    obtain ⟨h1, h2⟩ := hsr.skip (o := o) (ds := ds) (n := n) hd (by omega)
    exact hnext μ _ _ h1 h2
  · rw [hw, if_pos rfl]
    refine .inl ?_
    rw [okOid_iff] at hok
    generalize hbs : bf.getD i [] = bs at *
    have hob : ∀ x, (S.mask base ops.toList.length bs).ob x = S.ob x ∨ (S.mask base ops.toList.length bs).ob x = .dead := fun x => by
      rw [mask_ob]; cases vis base ops.toList.length bs x
      · exact .inr rfl
      · exact .inl rfl
    have hlat : ∀ x, Later S.ob μ (S.mask base ops.toList.length bs).ob μ x := fun x => by
      unfold Later
      rcases hob x with e | e
      · rw [e]; cases S.ob x <;> simp
      · rw [e]; trivial
    have hs1 : Slots w (av c S.ob μ) (S.mask base ops.toList.length bs).ob μ (S.mask base ops.toList.length bs).slots a :=
      hsr.slots.later (Keep.refl None w) (fun _ _ h => h) (fun _ h => h.elim) (fun x _ => hlat x)
    have hal : ∀ x, ((S.mask base ops.toList.length bs).ob x).alive = true → (S.ob x).alive = true := fun x hx => by
      rcases hob x with e | e
      · rw [← e]; exact hx
      · rw [e] at hx; cases hx
    have hO1 : Objs w (av c S.ob μ) (S.mask base ops.toList.length bs).ob μ := by
      refine ⟨fun x => ?_, fun x y z h1 h2 h3 h4 => hsr.objs.apart x y z (hal x h1) (hal y h2) h3 h4, fun x hx => ?_, hsr.objs.old⟩
      · exact (hsr.objs.each x).later (Keep.refl None w) (fun _ _ h => h) (fun _ h => h.elim) (hob x) (fun _ => rfl) (fun z h1 h2 => ⟨fun h => h.elim, own_lt hsr ⟨x, h1, h2⟩⟩) (fun z _ => hlat z)
      · obtain ⟨y, h1, h2⟩ := hx; exact .inr ⟨y, hal y h1, h2⟩
    have hf1 : Fresh (S.mask base ops.toList.length bs) (base + i) := by
      refine ⟨?_, hfr.slots, fun x hx => ?_⟩
      · rcases hob (base + i) with e | e
        · rw [e]; exact hfr.dead
        · exact e
      · rcases hob x with e | e
        · rw [e] at hx; exact hfr.objs x hx
        · rw [e] at hx; simp [OB.oids] at hx
    refine quietD hE hs1 hO1 hf1 hq (fun val w' hkeep hv => ?_)
    have hvis : ∀ x ∈ v.oids ++ obOids b, x ≠ base + i → (S.mask base ops.toList.length bs).ob x = S.ob x := fun x hx hne => by
      rcases hok x hx with h1 | h1
      · rw [mask_ob, h1]; rfl
      · exact absurd h1 hne
    have hadd : ∃ μ', SR c (S.add (base + i) o.dst v b) μ' (a.put o.dst val) w' ∧ (∀ n ds, (∀ t, o.dst = some t → t ∈ ds) → n ≤ base + i → n ≤ S.objs.length → Ag n ds S μ (S.add (base + i) o.dst v b) μ') := by
      refine hsr.add hkeep (fun _ _ => hfr) ?_
      cases b with
      | none =>
        have hdead : ∀ x ∈ v.oids, x = base + i → S.ob x = .dead := fun x _ e => by rw [e]; exact hfr.dead
        refine VR.later (Keep.refl None w') (fun _ _ h => h) (fun _ h => h.elim) (fun x hx => ?_) hv
        unfold Later
        by_cases e : x = base + i
        · rw [hdead x hx e]; trivial
        · rw [hvis x (by simp [hx]) e]; cases S.ob x <;> simp
      | some b =>
        obtain ⟨mv, h1, h2, h3⟩ := hv
        have hl2 : ∀ x ∈ v.oids ++ obOids (some b), Later (upd (S.mask base ops.toList.length bs).ob (base + i) b) (upd μ (base + i) mv) (upd S.ob (base + i) b) (upd μ (base + i) mv) x := fun x hx => by
          unfold Later
          by_cases e : x = base + i
          · subst e; rw [upd_same, upd_same]; cases b <;> simp
          · rw [upd_other _ _ e, upd_other _ _ e, hvis x hx e]; cases S.ob x <;> simp
        refine ⟨mv, h1, ?_, VR.later (Keep.refl None w') (fun _ _ h => h) (fun _ h => h.elim) (fun x hx => hl2 x (by simp [hx])) h3⟩
        exact h2.later (Keep.refl None w') (fun _ _ h => h) (fun _ h => h.elim) (.inl (by rw [upd_same, upd_same])) (fun _ => rfl) (fun z _ hz => ⟨fun h => h.elim, by rw [upd_same] at hz; exact (h1 z hz).2⟩) (fun x hx => hl2 x (by rw [upd_same] at hx; simp [obOids, hx]))
    obtain ⟨μ', h1, h2⟩ := hadd
    exact hnext μ' _ _ h1 (h2 n ds hd (by omega) (by omega))

/-! ### All of them, in whatever order -/
theorem rest_skip {all : List Oper} {bf : List (List Nat)} {base : Nat} {L : Nat → Bool} : ∀ (m j : Nat) (S : St), (∀ k, j ≤ k → k < j + m → L k = true) → j + m ≤ all.length →
    (Rest E all bf base K r L j (all.drop j) S ↔ Rest E all bf base K r L (j + m) (all.drop (j + m)) S)
  | 0, j, S, _, _ => by simp
  | m + 1, j, S, hL, hj => by
    have hlt : j < all.length := by omega
    rw [List.drop_eq_getElem_cons hlt]
    simp only [Rest]
    rw [if_pos (hL j (Nat.le_refl _) (by omega)), rest_skip m (j + 1) S (fun k h1 h2 => hL k (by omega) (by omega)) (by omega)]
    rw [show j + 1 + m = j + (m + 1) from by omega]
theorem countP_lt {p q : Nat → Bool} : ∀ (l : List Nat), (∀ x, q x = true → p x = true) → ∀ x ∈ l, p x = true → q x = false → l.countP q < l.countP p
  | [], _, x, hx, _, _ => by cases hx
  | y :: l, h, x, hx, h1, h2 => by
    have hle : l.countP q ≤ l.countP p := List.countP_mono_left (fun z _ => h z)
    rcases List.mem_cons.1 hx with rfl | hx
    · rw [List.countP_cons_of_pos h1, List.countP_cons_of_neg (by simp [h2])]
      omega
    · have := countP_lt l h x hx h1 h2
      rw [List.countP_cons, List.countP_cons]
      have : (if q y = true then 1 else 0) ≤ (if p y = true then 1 else 0) := by
        by_cases hq : q y = true
        · rw [if_pos hq, if_pos (h y hq)]; exact Nat.le_refl _
        · rw [if_neg hq]; exact Nat.zero_le _
      omega
def ofArr (listed : Array Bool) : Nat → Bool := fun k => listed.getD k false
theorem ofArr_set {listed : Array Bool} {i : Nat} (hi : i < listed.size) : ofArr (listed.setIfInBounds i true) = addL (ofArr listed) i := by
  funext k
  by_cases e : k = i
  · subst e
    rw [addL_same]
    simp [ofArr, hi]
  · rw [addL_other _ e]
    exact getD_set_ne false (fun h => e h.symm)
theorem binds_any (e : Edge) : Region.binds .any e = bindsAlways e := by
  unfold Region.binds bindsAlways
  cases e.ground <;> rfl
theorem draw_any (hE : EnvOK P E) {ops : Array Oper} {bf : List (List Nat)} (hbf : bf = befores ops.toList []) {base : Nat} (hok : drawOK E ops.toList bf 0 ops.toList = true) (hd : ∀ o ∈ ops.toList, ∀ t, o.dst = some t → t ∈ ds) (hn : n ≤ base) {S0 : St} {μ0 : Nat → Value}
    (hQ : ∀ S' μ' a' w', K S' = some r → SR c S' μ' a' w' → Ag n ds S0 μ0 S' μ' → Q .normal a' w') :
    ∀ (fuel : Nat) (listed : Array Bool) (S : St) (μ : Nat → Value) (a : Act) (w : World), listed.size = ops.toList.length → (List.range ops.toList.length).countP (fun k => !ofArr listed k) ≤ fuel →
      (∀ k, k < ops.toList.length → ofArr listed k = true → ∀ x ∈ bf.getD k [], ofArr listed x = true) → Inv base ops.toList.length (ofArr listed) S →
      Rest E ops.toList bf base K r (ofArr listed) 0 ops.toList S → SR c S μ a w → Ag n ds S0 μ0 S μ → wpAny P .any ops Q fuel listed a w := by
  have hspec := fun k o hk => drawOK_spec ops.toList 0 hok k o hk
  simp only [Nat.zero_add] at hspec
  have hbfs : ∀ i o, ops.toList[i]? = some o → ∀ x, x ∈ bf.getD i [] ↔ ∃ e ∈ o.after.toList, bindsAlways e = true ∧ (x = e.on ∨ (e.on < i ∧ x ∈ bf.getD e.on [])) := fun i o hi x => by
    have := befores_spec ops.toList [] i o hi x
    rw [← hbf] at this
    simpa using this
  have hfin : ∀ (listed : Array Bool) (S : St) (μ : Nat → Value) (a : Act) (w : World), (∀ k, k < ops.toList.length → ofArr listed k = true) → Rest E ops.toList bf base K r (ofArr listed) 0 ops.toList S → SR c S μ a w → Ag n ds S0 μ0 S μ → Q .normal a w := by
    intro listed S μ a w hall hr hsr hag
    have := (rest_skip (E := E) (K := K) (r := r) (bf := bf) (base := base) (all := ops.toList) (L := ofArr listed) ops.toList.length 0 S (fun k _ h => hall k (by omega)) (by omega)).1 (by simpa using hr)
    rw [Nat.zero_add, List.drop_length] at this
    simp only [Rest] at this
    exact hQ S μ a w this hsr hag
  intro fuel
  induction fuel with
  | zero =>
    intro listed S μ a w hsz hcnt hclo hinv hr hsr hag
    have hall : ∀ k, k < ops.toList.length → ofArr listed k = true := fun k hk => by
      have := Nat.le_zero.1 hcnt
      rw [List.countP_eq_zero] at this
      simpa using this k (List.mem_range.2 hk)
    refine ⟨?_, hfin listed S μ a w hall hr hsr hag⟩
    rw [List.eq_nil_iff_forall_not_mem]
    intro j hj
    rw [mem_ready] at hj
    obtain ⟨h1, o, ho, _⟩ := hj
    have hlt : j < ops.toList.length := by have := (Array.getElem?_eq_some_iff.1 ho).1; simpa using this
    have h2 := hall j hlt
    simp only [ofArr] at h2
    have : j < listed.size := by omega
    simp [this] at h1 h2
    rw [h1] at h2; cases h2
  | succ fuel ih =>
    intro listed S μ a w hsz hcnt hclo hinv hr hsr hag
    refine ⟨fun hnil => ?_, fun i hi => ?_⟩
    · have hall : ∀ k, k < ops.toList.length → ofArr listed k = true := by
        intro k
        induction k using Nat.strongRecOn with
        | _ k ihk =>
          intro hk
          by_cases hL : ofArr listed k = true
          · exact hL
          · exfalso
            have hko : ops.toList[k]? = some (ops.toList[k]'hk) := List.getElem?_eq_getElem hk
            have hm : k ∈ Region.ready .any ops listed := by
              rw [mem_ready]
              refine ⟨?_, _, by rw [← Array.getElem?_toList]; exact hko, fun e he hb => ?_⟩
              · have : k < listed.size := by omega
                simp only [ofArr] at hL
                simp [this] at hL ⊢
                exact hL
              · rw [binds_any] at hb
                have h1 : e.on ∈ bf.getD k [] := (hbfs k _ hko e.on).2 ⟨e, by simpa using he, hb, .inl rfl⟩
                have h2 := (hspec k _ hko).1 e.on h1
                exact ihk e.on h2 (by omega)
            rw [hnil] at hm; cases hm
      exact hfin listed S μ a w hall hr hsr hag
    · rw [mem_ready] at hi
      obtain ⟨h1, o, ho, hpre⟩ := hi
      have hlt : i < ops.toList.length := by have := (Array.getElem?_eq_some_iff.1 ho).1; simpa using this
      have hio : ops.toList[i]? = some o := by simpa using ho
      have hsz' : i < listed.size := by omega
      have hLi : ofArr listed i = false := by
        simp only [ofArr]
        simp [hsz'] at h1 ⊢
        exact h1
      have hbs : ∀ x ∈ bf.getD i [], ofArr listed x = true := fun x hx => by
        obtain ⟨e, he, hb, hx⟩ := (hbfs i o hio x).1 hx
        have hon : ofArr listed e.on = true := hpre e (by simpa using he) (by rw [binds_any]; exact hb)
        rcases hx with rfl | ⟨hlt2, hx⟩
        · exact hon
        · exact hclo e.on (by omega) hon x hx
      have hset := ofArr_set hsz'
      have hcnt' : (List.range ops.toList.length).countP (fun k => !ofArr (listed.setIfInBounds i true) k) ≤ fuel := by
        have := countP_lt (p := fun k => !ofArr listed k) (q := fun k => !ofArr (listed.setIfInBounds i true) k) (List.range ops.toList.length) (fun x hx => by
          rw [hset] at hx
          simp only [addL, Bool.not_eq_true', Bool.or_eq_false_iff] at hx ⊢
          exact hx.2) i (List.mem_range.2 hlt) (by simp [hLi]) (by rw [hset, addL_same]; rfl)
        omega
      have hclo' : ∀ k, k < ops.toList.length → ofArr (listed.setIfInBounds i true) k = true → ∀ x ∈ bf.getD k [], ofArr (listed.setIfInBounds i true) x = true := fun k hk hLk x hx => by
        rw [hset] at hLk ⊢
        have : ofArr listed x = true := by
          by_cases e : k = i
          · subst e; exact hbs x hx
          · rw [addL_other _ e] at hLk; exact hclo k hk hLk x hx
        simp [addL, this]
      have hdo := hd o (List.mem_of_getElem? hio)
      unfold Go.wpOp
      simp only [ho]
      by_cases hq : isQuiet E o = true
      · obtain ⟨v, b, h2, h3⟩ := Rest.pick hio hLi hq hlt ops.toList 0 S rfl (Nat.zero_le _) hinv.len (fun k _ hki hLk ok hok => by
          have hnk : k ∉ bf.getD i [] := fun hm => by rw [hbs k hm] at hLk; cases hLk
          rcases standsWith_spec ops.toList 0 (hspec i o hio).2 k ok hok (by omega) with h | ⟨_, g2, g3⟩
          · simp at h; exact absurd h (by simpa using hnk)
          · refine ⟨g2, g3, ?_, ?_⟩
            · rw [← Bool.not_eq_true]
              simp only [vis, Bool.or_eq_true, mem_iff, Nat.add_sub_cancel_left]
              rintro (h | h | h)
              · have := Nat.le_of_ble_eq_true h; omega
              · have := Nat.le_of_ble_eq_true h; omega
              · exact hnk h
            · rw [← Bool.not_eq_true]
              simp only [vis, Bool.or_eq_true, mem_iff, Nat.add_sub_cancel_left]
              rintro (h | h | h)
              · have := Nat.le_of_ble_eq_true h; omega
              · have := Nat.le_of_ble_eq_true h; omega
              · have := (hspec k ok hok).1 i h; omega) hr
        refine quiet_pick hE hsr hinv hlt hLi h2 hdo hn (fun μ' a' w' h4 h5 => ?_)
        refine ih _ _ μ' a' w' (by simpa using hsz) hcnt' hclo' (by rw [hset]; exact h2.inv hinv hlt hbs) (by rw [hset]; exact h3) h4 (hag.trans h5 (fun _ h => h) (fun _ h => h))
      · have hall : ∀ k, k < i → ofArr listed k = true := fun k hki => by
          have hko : ops.toList[k]? = some (ops.toList[k]'(by omega)) := List.getElem?_eq_getElem (by omega)
          rcases standsWith_spec ops.toList 0 (hspec i o hio).2 k _ hko (by omega) with h | ⟨g1, _, _⟩
          · exact hbs k (by simpa using h)
          · exact absurd g1 hq
        have hnone : ∀ k, i < k → ofArr listed k = false := fun k hki => by
          by_cases hkn : k < ops.toList.length
          · by_cases hLk : ofArr listed k = true
            · exfalso
              have hko : ops.toList[k]? = some (ops.toList[k]'hkn) := List.getElem?_eq_getElem hkn
              rcases standsWith_spec ops.toList 0 (hspec k _ hko).2 i o hio (by omega) with h | ⟨_, g1, _⟩
              · have := hclo k hkn hLk i (by simpa using h)
                rw [hLi] at this; cases this
              · exact absurd g1 hq
            · simpa using hLk
          · simp only [ofArr]
            have : ¬ k < listed.size := by omega
            simp [this]
        have hr2 := (rest_skip (E := E) (K := K) (r := r) (bf := bf) (base := base) (all := ops.toList) (L := ofArr listed) i 0 S (fun k _ h => hall k (by omega)) (by omega)).1 (by simpa using hr)
        simp only [Nat.zero_add] at hr2
        have hdrop : ops.toList.drop i = o :: ops.toList.drop (i + 1) := by
          rw [List.drop_eq_getElem_cons hlt]
          have := List.getElem?_eq_getElem hlt
          rw [hio] at this
          cases this; rfl
        rw [hdrop] at hr2
        simp only [Rest] at hr2
        rw [hLi, if_neg (by simp), if_neg hq] at hr2
        have hgo : ∀ S' μ' a' w', cond (pastOK S' base ops.toList.length i) (evDraw E ops.toList bf base (i + 1) (ops.toList.drop (i + 1)) S' K) none = some r → SR c S' μ' a' w' → Ag n ds S μ S' μ' → wpAny P .any ops Q fuel (listed.setIfInBounds i true) a' w' := by
          intro S' μ' a' w' hk hsr' hag'
          obtain ⟨hp, hk⟩ := cond_some hk
          simp only [pastOK, Bool.and_eq_true, okPast_iff, okPastO_iff, deadFrom_iff] at hp
          obtain ⟨hp1, hp2, hp3, hp4⟩ := hp
          have hokx : ∀ x, (x ≤ base + i ∨ base + ops.toList.length ≤ x) → x < base ∨ base + ops.toList.length ≤ x ∨ ∃ k, x = base + k ∧ addL (ofArr listed) i k = true := fun x hx => by
            rcases hx with hx | hx
            · rcases Nat.lt_or_ge x base with h1 | h1
              · exact .inl h1
              · refine .inr (.inr ⟨x - base, by omega, ?_⟩)
                by_cases e : x - base = i
                · rw [e, addL_same]
                · rw [addL_other _ e]; exact hall _ (by omega)
            · exact .inr (.inl hx)
          refine ih _ S' μ' a' w' (by simpa using hsz) hcnt' hclo' ?_ ?_ hsr' (hag.trans hag' (fun _ h => h) (fun _ h => h))
          · rw [hset]
            refine ⟨by simpa using hp1, fun x hx => hokx x (hp2 x hx), fun b hb x hx => hokx x (hp3 b hb x hx), fun k hk1 hk2 => ?_⟩
            have hki : i < k := by
              rcases Nat.lt_or_ge i k with h | h
              · exact h
              · exfalso
                by_cases e : k = i
                · subst e; rw [addL_same] at hk2; cases hk2
                · rw [addL_other _ e, hall k (by omega)] at hk2; cases hk2
            exact hp4 (base + k) (by omega) (by omega)
          · rw [hset]
            have h5 : Rest E ops.toList bf base K r (addL (ofArr listed) i) (i + 1) (ops.toList.drop (i + 1)) S' := rest_of_draw _ _ _ _ hk (fun k hk => by rw [addL_other _ (by omega)]; exact hnone k (by omega))
            have := (rest_skip (E := E) (K := K) (r := r) (bf := bf) (base := base) (all := ops.toList) (L := addL (ofArr listed) i) (i + 1) 0 S' (fun k _ h => by
              by_cases e : k = i
              · rw [e, addL_same]
              · rw [addL_other _ e]; exact hall k (by omega)) (by omega)).2 (by simpa using h5)
            simpa using this
        have hw := wanted_ok hsr hr2
        rw [hw]
        rcases wantK_some hr2 with ⟨hw1, h2⟩ | ⟨hw1, h2⟩
        · rw [hw1, if_pos rfl]
          have hl := hinv.len
          exact .inl (evF_sound hE hsr h2 hdo (by omega) (by omega) hgo)
        · rw [hw1]
          simp only [Bool.false_eq_true, if_false]
          have hl := hinv.len
          obtain ⟨g1, g2⟩ := hsr.skip (o := o) (ds := ds) (n := n) hdo (by omega)
          exact hgo _ μ _ _ h2 g1 g2

/-- a region -/
theorem region_sound (hE : EnvOK P E) (hm : P.follows .mixedOrders = true) {id : Nat} {ops : Array Oper} {draw : Bool} (h : evRegion E ops.toList draw S K = some r) (hsr : SR c S μ a w) (hd : ∀ o ∈ ops.toList, ∀ t, o.dst = some t → t ∈ ds) (hn : n ≤ S.objs.length)
    (hQ : ∀ S' μ' a' w', K S' = some r → SR c S' μ' a' w' → Ag n ds S μ S' μ' → Q .normal a' w') : (Code.region id ops draw).wp P Q a w := by
  unfold evRegion at h
  cases draw with
  | false =>
    simp only [cond_false] at h
    refine wp_region ?_
    have := evOps_sound (n := n) (ds := ds) (Q := Q) hE ops.toList 0 (by simp) h hsr hd hn hQ
    rw [List.range_eq_range']
    simpa using this
  | true =>
    simp only [cond_true] at h
    obtain ⟨hc, h⟩ := cond_some h
    simp only [Bool.and_eq_true] at hc
    obtain ⟨huns, hok⟩ := hc
    simp only [unseen, Bool.and_eq_true] at huns
    rw [boundL_iff, boundO_iff] at huns
    refine wp_region_any hm ?_
    have hS : ∃ S1 : St, S1 = { S with objs := S.objs ++ List.replicate ops.toList.length OB.dead } := ⟨_, rfl⟩
    obtain ⟨S1, hS1⟩ := hS
    rw [← hS1] at h
    have hob : S1.ob = S.ob := by
      subst hS1
      funext x
      simp only [St.ob, List.getD, List.getElem?_append]
      split
      · rfl
      · rename_i hge
        have : S.objs[x]? = none := by simp; omega
        rw [this, List.getElem?_replicate]
        split <;> rfl
    have hsl : S1.slots = S.slots := by subst hS1; rfl
    obtain ⟨μ', h1, h2⟩ := hsr.add (al := S.objs.length) (d := none) (pv := .any) (v := Go.undef) (nb := none) (Keep.drew None w) (fun _ h => by cases h) (.mk_any _)
    have h2 : Ag n ds S μ S μ' := h2 n ds (fun _ h => by cases h) hn hn
    have hsr1 : SR c S1 μ' a { w with drawn := w.drawn + 1 } := ⟨h1.defers, by rw [hsl, hob]; exact h1.slots, by rw [hob]; exact h1.objs, h1.keep, by rw [hob]; exact h1.mine⟩
    have hag : Ag n ds S μ S1 μ' := by
      refine ⟨by rw [hsl], fun t _ => by rw [hsl], by subst hS1; simp; omega, fun i _ => .inl (by rw [hob]), fun i hi => by subst hS1; exact hi, fun i hi => by rw [hob]; exact h2.later i hi⟩
    have hrep : ∀ k, ofArr (Array.replicate ops.size false) k = false := fun k => by
      simp only [ofArr]
      rw [Array.getD_eq_getD_getElem?, Array.getElem?_replicate]
      split <;> rfl
    refine draw_any (base := S.objs.length) (S0 := S) (μ0 := μ) (ds := ds) (n := n) hE rfl hok hd hn hQ ops.size _ S1 μ' a _ (by simp) ?_ ?_ ?_ ?_ hsr1 hag
    · have := List.countP_le_length (p := fun k => !ofArr (Array.replicate ops.size false) k) (l := List.range ops.toList.length)
      simpa using this
    · intro k _ hk
      rw [hrep] at hk; cases hk
    · refine ⟨by subst hS1; simp, fun x hx => .inl (huns.1 x (by rw [← hsl]; exact hx)), fun b hb x hx => ?_, fun k hk _ => ?_⟩
      · subst hS1
        rcases List.mem_append.1 hb with hb | hb
        · exact .inl (huns.2 b hb x hx)
        · rw [List.eq_of_mem_replicate hb] at hx; simp [OB.oids] at hx
      · rw [hob]
        have : S.objs[S.objs.length + k]? = none := by simp
        simp [St.ob, List.getD, this]
    · refine rest_of_draw _ _ _ _ h (fun k _ => hrep k)
end
end Go.Vm
