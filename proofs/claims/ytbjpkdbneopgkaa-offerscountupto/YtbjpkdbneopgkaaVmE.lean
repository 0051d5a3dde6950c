/- Vm, part 12b: maps that are written. Own work. -/
import Derived.Test.YtbjpkdbneopgkaaVmB
set_option linter.unusedVariables false
set_option linter.unusedSimpArgs false
set_option linter.unusedSectionVars false
namespace Go.Vm
variable [MonotC]
open Go.RowKit
section
variable {w : World} {A : Nat → Prop}
theorem noIter_iff {m : Nat} : ∀ {l : List OB}, noIter m l = true ↔ ∀ b ∈ l, ∀ m' K V n s c, b = .iter m' K V n s c → m' ≠ m
  | [] => by simp [noIter]
  | b :: l => by
    simp only [noIter, Bool.and_eq_true, noIter_iff (l := l), List.mem_cons, forall_eq_or_imp]
    refine and_congr_left fun _ => ?_
    cases b with
    | iter m' K V n s c =>
      simp only [Bool.not_eq_true', ← Bool.not_eq_true, Nat.beq_eq]
      exact ⟨fun h m'' K' V' n' s' c' e => by cases e; exact fun e => h e.symm, fun h e => h m' K V n s c rfl e.symm⟩
    | _ => exact ⟨fun _ _ _ _ _ _ _ e => (by cases e), fun _ => rfl⟩
theorem Ents.split {K V : Ty} : ∀ {l1 : List (K.den × V.den × Nat)} {m1 : List MapEntry} {x : K.den × V.den × Nat} {l2 : List (K.den × V.den × Nat)} {e : MapEntry} {m2 : List MapEntry}, l1.length = m1.length → Ents w A K V (l1 ++ x :: l2) (m1 ++ e :: m2) →
    Ents w A K V l1 m1 ∧ KeyR w A K x.1 e.key ∧ KeyR w A V x.2.1 e.val ∧ e.born = x.2.2 ∧ Ents w A K V l2 m2
  | [], [], x, l2, e, m2, _, h => by
    simp only [List.nil_append, Ents] at h
    obtain ⟨e', r', h0, h1, h2, h3, h4, h5, h6⟩ := h
    simp only [List.cons.injEq] at h0
    rw [h0.1, h0.2]
    exact ⟨by simp only [Ents], ⟨h1, h2⟩, ⟨h3, h4⟩, h5, h6⟩
  | y :: l1, z :: m1, x, l2, e, m2, hl, h => by
    simp only [List.cons_append, Ents] at h
    obtain ⟨e', r', h0, h1, h2, h3, h4, h5, h6⟩ := h
    simp only [List.cons.injEq] at h0
    rw [← h0.2] at h6
    obtain ⟨g1, g2⟩ := Ents.split (by simpa using hl) h6
    refine ⟨?_, g2⟩
    simp only [Ents]
    exact ⟨z, m1, rfl, by rw [h0.1]; exact h1, by rw [h0.1]; exact h2, by rw [h0.1]; exact h3, by rw [h0.1]; exact h4, by rw [h0.1]; exact h5, g1⟩
  | [], _ :: _, _, _, _, _, hl, _ => by simp at hl
  | _ :: _, [], _, _, _, _, hl, _ => by simp at hl
theorem Ents.app {K V : Ty} : ∀ {l1 : List (K.den × V.den × Nat)} {m1 : List MapEntry} {l2 : List (K.den × V.den × Nat)} {m2 : List MapEntry}, Ents w A K V l1 m1 → Ents w A K V l2 m2 → Ents w A K V (l1 ++ l2) (m1 ++ m2)
  | [], m1, l2, m2, h, k => by simp only [Ents] at h; subst h; simpa using k
  | y :: l1, m1, l2, m2, h, k => by
    simp only [Ents] at h
    obtain ⟨e', r', rfl, h1, h2, h3, h4, h5, h6⟩ := h
    simp only [List.cons_append, Ents]
    exact ⟨e', _, rfl, h1, h2, h3, h4, h5, h6.app k⟩
theorem Ents.one {K V : Ty} {x : K.den × V.den × Nat} {e : MapEntry} {l : List (K.den × V.den × Nat)} {m : List MapEntry} (h1 : KeyR w A K x.1 e.key) (h2 : KeyR w A V x.2.1 e.val) (h3 : e.born = x.2.2) (h : Ents w A K V l m) : Ents w A K V (x :: l) (e :: m) := by
  simp only [Ents]
  exact ⟨e, m, rfl, h1.1, h1.2, h2.1, h2.2, h3, h⟩
theorem mod_mid {e : MapEntry} {m2 : List MapEntry} {f : MapEntry → MapEntry} : ∀ (m1 : List MapEntry), (m1 ++ e :: m2).modify m1.length f = m1 ++ f e :: m2
  | [] => by simp
  | x :: m1 => by simpa [List.modify_cons] using mod_mid m1
theorem modify_mid (m1 : List MapEntry) (e : MapEntry) (m2 : List MapEntry) (mes : Array MapEntry) (h : mes.toList = m1 ++ e :: m2) (f : MapEntry → MapEntry) : (mes.modify m1.length f).toList = m1 ++ f e :: m2 := by
  rw [Array.toList_modify, h]
  exact mod_mid m1
theorem get_mid (m1 : List MapEntry) (e : MapEntry) (m2 : List MapEntry) (mes : Array MapEntry) (h : mes.toList = m1 ++ e :: m2) : mes[m1.length]? = some e := by
  rw [← Array.getElem?_toList, h]; simp
/-! ### The same bits -/
def simpleV (v : Value) : Prop := (∃ k n, v = .int k n) ∨ (∃ b, v = .bool b) ∨ ∃ s, v = .string s
mutual
theorem DR.simple : ∀ (T : Ty) (x : T.den) (cs : List Value), T.deep = false → DR w A T x cs → ∀ v ∈ cs, simpleV v
  | .int _, _, _, _, h => by simp only [DR] at h; subst h; intro v hv; simp at hv; exact .inl ⟨_, _, hv⟩
  | .bool, _, _, _, h => by simp only [DR] at h; subst h; intro v hv; simp at hv; exact .inr (.inl ⟨_, hv⟩)
  | .str, _, _, _, h => by simp only [DR] at h; rw [h.1]; intro v hv; simp at hv; exact .inr (.inr ⟨_, hv⟩)
  | .slice _, _, _, hd, _ => by simp [Ty.deep] at hd
  | .struct fs, x, cs, hd, h => by simp only [DR] at h; exact DRs.simple fs x cs (by simpa only [Ty.deep] using hd) h
theorem DRs.simple : ∀ (T : Tys) (x : T.den) (cs : List Value), Ty.deep.go T = false → DRs w A T x cs → ∀ v ∈ cs, simpleV v
  | .nil, _, _, _, h => by simp only [DRs] at h; subst h; simp
  | .cons t ts, x, cs, hd, h => by
    simp only [DRs] at h
    obtain ⟨c1, c2, rfl, h1, h2⟩ := h
    have hts : Ty.deep.go ts = false := by cases t <;> simp [Ty.deep.go] at hd <;> first | exact hd | exact hd.2
    have ht : t.deep = false := by cases t <;> simp [Ty.deep.go] at hd <;> simp [Ty.deep, hd]
    intro v hv
    rcases List.mem_append.1 hv with hv | hv
    · exact DR.simple t x.1 c1 ht h1 v hv
    · exact DRs.simple ts x.2 c2 hts h2 v hv
end
theorem sameBits_simple {v : Value} (h : simpleV v) (n : Nat) : Instr.sameBits n v v = true := by
  rcases h with ⟨k, n', rfl⟩ | ⟨b, rfl⟩ | ⟨s, rfl⟩
  · cases n <;> simp [Instr.sameBits]
  · cases n <;> simp [Instr.sameBits]
  · have : (s == s) = true := by show (s.data == s.data) = true; simp
    cases n <;> simp [Instr.sameBits, this]
theorem KeyR.sameBits {K : Ty} {x : K.den} {v : Value} (hd : K.deep = false) (h : KeyR w A K x v) (n : Nat) : Instr.sameBits (n + 1) v v = true := by
  have hs := DR.simple K x _ hd h.1
  rw [val_wrap h.2]
  cases ha : K.isAgg
  · have hl := DR.len _ _ _ h.1
    rw [Ty.cells_one ha] at hl
    obtain ⟨y, hy⟩ : ∃ y, v.cells.toList = [y] := by
      match hz : v.cells.toList, hl with
      | [y], _ => exact ⟨y, rfl⟩
    rw [hy]
    exact sameBits_simple (hs y (by rw [hy]; simp)) _
  · simp only [wrapV, if_true, Instr.sameBits, beq_self_eq_true, Bool.true_and, List.all_eq_true]
    intro p hp
    have : p.1 = p.2 ∧ p.1 ∈ v.cells.toList := by
      have hz : ∀ (l : List Value), ∀ p ∈ l.zip l, p.1 = p.2 ∧ p.1 ∈ l := by
        intro l
        induction l with
        | nil => intro p hp; cases hp
        | cons a l ih =>
          intro p hp
          simp only [List.zip_cons_cons, List.mem_cons] at hp
          rcases hp with rfl | hp
          · simp
          · exact ⟨(ih p hp).1, List.mem_cons_of_mem _ (ih p hp).2⟩
      exact hz _ p (by simpa using hp)
    obtain ⟨a, b⟩ := p
    simp only at this
    obtain ⟨rfl, hm⟩ := this
    exact sameBits_simple (hs a hm) n
end
theorem map_two {α β : Type} {f : α → β} {l : List α} {x y : β} (h : l.map f = [x, y]) : ∃ u v, l = [u, v] ∧ f u = x ∧ f v = y := by
  match l, h with
  | [u, v], h => simp at h; exact ⟨u, v, rfl, h.1, h.2⟩
theorem mrep_borns {κ ν : Type} (eq : κ → κ → Bool) (k : κ) (v : ν) : ∀ l : List (κ × ν × Nat), (mrep eq k v l).map (·.2.2) = l.map (·.2.2)
  | [] => rfl
  | e :: l => by
    simp only [mrep]
    cases eq k e.1
    · simp only [cond_false, List.map_cons, mrep_borns eq k v l]
    · simp only [cond_true, List.map_cons]
theorem bput_borns {κ ν : Type} (b : Int) (v : ν) : ∀ l : List (κ × ν × Nat), (bput b v l).map (·.2.2) = l.map (·.2.2)
  | [] => rfl
  | e :: l => by
    simp only [bput]
    cases (@BEq.beq Int _ (e.2.2 : Int) b)
    · simp only [cond_false, List.map_cons, bput_borns b v l]
    · simp only [cond_true, List.map_cons]
theorem mdel_sub {κ ν : Type} (eq : κ → κ → Bool) (k : κ) : ∀ l : List (κ × ν × Nat), (mdel eq k l).Sublist l
  | [] => List.Sublist.refl _
  | e :: l => by
    simp only [mdel]
    cases eq k e.1
    · simp only [cond_false]; exact (mdel_sub eq k l).cons_cons e
    · simp only [cond_true]; exact List.sublist_cons_self e l
theorem bornOK_iff {κ ν : Type} {l : List (κ × ν × Nat)} {n : Nat} : BornOK l n ↔ (l.map (·.2.2)).Pairwise (· < ·) ∧ ∀ b ∈ l.map (·.2.2), b < n := by
  unfold BornOK
  rw [List.pairwise_map]
  simp only [List.mem_map, forall_exists_index, and_imp, forall_apply_eq_imp_iff₂]
theorem BornOK.push {κ ν : Type} {l : List (κ × ν × Nat)} {n : Nat} (h : BornOK l n) (k : κ) (v : ν) : BornOK (l ++ [(k, v, n)]) (n + 1) := by
  refine ⟨List.pairwise_append.2 ⟨h.1, List.pairwise_singleton _ _, fun a ha b hb => ?_⟩, fun x hx => ?_⟩
  · rw [List.mem_singleton.1 hb]; exact h.2 a ha
  · rcases List.mem_append.1 hx with hx | hx
    · have := h.2 x hx; omega
    · rw [List.mem_singleton.1 hx]; exact Nat.lt_succ_self _
theorem BornOK.put {κ ν : Type} {c : List (κ × ν × Nat) × Nat} (h : BornOK c.1 c.2) (eq : κ → κ → Bool) (k : κ) (v : ν) : BornOK (mput eq k v c).1 (mput eq k v c).2 := by
  unfold mput
  cases mhas eq k c.1
  · exact h.push k v
  · simp only [cond_true]
    rw [bornOK_iff, mrep_borns]
    exact bornOK_iff.1 h
theorem BornOK.open {κ ν : Type} {c : List (κ × ν × Nat) × Nat} (h : BornOK c.1 c.2) (eq : κ → κ → Bool) (d : ν) (k : κ) : BornOK (mopen eq d k c).1 (mopen eq d k c).2 := by
  unfold mopen
  cases mhas eq k c.1
  · exact h.push k d
  · exact h
theorem BornOK.bput {κ ν : Type} {l : List (κ × ν × Nat)} {n : Nat} (h : BornOK l n) (b : Int) (v : ν) : BornOK (bput b v l) n := by
  rw [bornOK_iff, bput_borns]
  exact bornOK_iff.1 h
theorem BornOK.del {κ ν : Type} {l : List (κ × ν × Nat)} {n : Nat} (h : BornOK l n) (eq : κ → κ → Bool) (k : κ) : BornOK (mdel eq k l) n :=
  ⟨h.1.sublist (mdel_sub eq k l), fun x hx => h.2 x ((mdel_sub eq k l).subset hx)⟩
/-! ### Writing -/
section
variable {P : Program} {E : Env} {c : Cx} {S : St} {μ : Nat → Value} {a : Act} {w : World} {o : Oper} {al n : Nat} {ds : List Nat} {ρ : Type} {r : ρ} {K : St → Option ρ} {next : Act → World → Prop} {Q : Exit → Act → World → Prop}
theorem Keep.setMap (w : World) {b : Nat} {es : Array MapEntry} {k : Nat} (hb : w.heap[b]? = some (.map es k)) (es' : Array MapEntry) (k' : Nat) : Keep (· = b) w { w with heap := w.heap.setIfInBounds b (.map es' k') } := by
  refine ⟨rfl, rfl, rfl, by simp, fun _ => Nat.le_refl _, fun a _ _ => ?_, fun x hx hn => ?_, fun x cs t z hx => ?_⟩
  rotate_left 2
  · simp only [Array.getElem?_setIfInBounds]
    by_cases e : b = x
    · subst e
      rw [hb] at hx; cases hx
    · rw [if_neg e]; exact ⟨cs, z, hx⟩
  · unfold World.frozen?
    simp only [Array.getElem?_setIfInBounds]
    by_cases e : b = a.block
    · subst e
      have hlt : a.block < w.heap.size := by
        rcases Nat.lt_or_ge a.block w.heap.size with g | g
        · exact g
        · rw [Array.getElem?_eq_none g] at hb; cases hb
      rw [if_pos rfl, if_pos hlt, hb]
    · rw [if_neg e]
  · simp only [Array.getElem?_setIfInBounds]
    rw [if_neg (fun e => hn e.symm)]
/-- a map is written -/
theorem SR.writeMap (h : SR c S μ a w) {m b : Nat} {T U : Ty} {cc cc' : MapC T U} {mes mes' : Array MapEntry} (hob : S.ob m = .map T U cc) (hm : μ m = .map (some b)) (hb : w.heap[b]? = some (.map mes cc.2)) (hent : Ents w (av c S.ob μ) T U cc'.1 mes'.toList) (hbo : BornOK cc'.1 cc'.2) (hno : noIter m S.objs = true)
    (hd : ∀ t, o.dst = some t → t ∈ ds) (hn' : n ≤ S.objs.length) {pv : PV} {v : Value} (hv : ∀ w', Keep (· = b) w w' → VR w' (av c S.ob μ) (upd S.ob m (.map T U cc')) μ pv v)
    (hk : K ((S.setOb m (.map T U cc')).put o.dst pv) = some r)
    (hnext : ∀ S' μ' a' w', K S' = some r → SR c S' μ' a' w' → Ag n ds S μ S' μ' → next a' w') :
    next (a.put o.dst v) { w with heap := w.heap.setIfInBounds b (.map mes' cc'.2) } := by
  have hkp := Keep.setMap w hb mes' cc'.2
  have hlt : b < w.heap.size := by
    rcases Nat.lt_or_ge b w.heap.size with g | g
    · exact g
    · rw [Array.getElem?_eq_none g] at hb; cases hb
  have hbk : av c S.ob μ b := .inr ⟨m, by rw [hob]; rfl, by rw [hm]; rfl⟩
  obtain ⟨h1, h2⟩ := h.write (o := m) (b := b) (nb := .map T U cc') (by rw [hob]; rfl) (by rw [hm]; rfl) hkp (by unfold Later; rw [upd_same]; exact ⟨⟨cc, hob⟩, rfl⟩) rfl (by
      unfold OR
      rw [upd_same]
      refine ⟨b, mes', hm, ?_, hent.keep hkp (fun _ _ h => h) (fun x e => by subst e; exact hbk), hbo⟩
      simp [hlt]) (fun x m' T' U' k l cu hx e => by
      have hmem : S.ob x ∈ S.objs := by
        simp only [St.ob, List.getD] at hx ⊢
        cases hg : S.objs[x]? with
        | none => simp [hg] at hx
        | some y => simpa [hg] using List.mem_of_getElem? hg
      exact noIter_iff.1 hno _ hmem _ _ _ _ _ _ hx e)
  have hav : ∀ x, av c (upd S.ob m (.map T U cc')) μ x → av c S.ob μ x := fun x hx => hx.imp id (fun hx => by
    obtain ⟨o', g1, g2⟩ := hx
    by_cases e : o' = m
    · exact ⟨o', by rw [e, hob]; rfl, g2⟩
    · rw [upd_other _ _ e] at g1; exact ⟨o', g1, g2⟩)
  have hobs := ob_setOb S m (.map T U cc') (by rw [hob]; rfl)
  refine hnext _ μ _ _ hk ⟨by rw [put_defers]; exact h1.defers, ?_, ?_, h1.keep, ?_⟩ ?_
  · rw [put_ob]
    refine Slots.put h1.slots rfl ?_
    rw [hobs]
    exact VR.later (Keep.refl None _) (fun x _ hx => hav x hx) (fun _ h => h.elim) (fun o _ => Later.refl _ _ o) (hv _ hkp)
  · rw [put_ob]; exact h1.objs
  · rw [put_ob]; exact h1.mine
  · refine (h2 n [] hn').trans (ds' := ds) (ds'' := ds) ?_ (fun t ht => by cases ht) (fun _ h => h)
    exact ⟨put_len _ _ _, fun t ht => put_slots _ _ _ _ (fun e => ht (hd t e)), by rw [put_objs]; simpa [St.setOb] using hn', fun i _ => .inl (by rw [put_ob]), fun i hi => by rw [put_touched]; exact hi, fun i _ => by rw [put_ob]; exact Later.refl _ _ i⟩
theorem KeyR.keep {w w' : World} {A A' M : Nat → Prop} (hk : Keep M w w') (hA : ∀ b, b < w.heap.size → A' b → A b) (hM : ∀ b, M b → A b) {T : Ty} {x : T.den} {v : Value} (h : KeyR w A T x v) : KeyR w' A' T x v := ⟨DR.keep hk hA hM _ _ _ h.1, h.2⟩
/-- what an operation on a map finds -/
structure MapAt (P : Program) (c : Cx) (S : St) (μ : Nat → Value) (a : Act) (w : World) (t : TypeId) (x k : Operand) (m b : Nat) (T U : Ty) (cc : MapC T U) (key : T.den) (mes : Array MapEntry) (kt et : TypeId) : Prop where
  ob : S.ob m = .map T U cc
  mu : μ m = .map (some b)
  ev : a.eval x = .map (some b)
  heap : w.heap[b]? = some (.map mes cc.2)
  ents : Ents w (av c S.ob μ) T U cc.1 mes.toList
  born : BornOK cc.1 cc.2
  under : P.underlying t = some (.map kt et)
  elem : TyOK P et U
  flat : T.deep = false
  keyR : KeyR w (av c S.ob μ) T key (a.eval k)
  chk : ∀ e, (Instr.checkKey e 10000 kt (a.eval k)).run P w = .ok () w
  find : ∃ r, (Instr.findKey kt (a.eval k) mes.toList).run P w = .ok r w ∧ FindR (keq T) key cc.1 mes.toList 0 r
theorem map_at (hE : EnvTy P E) (hsr : SR c S μ a w) {t : TypeId} {x k : Operand} {T U T' U' : Ty} {m : Nat} {c' : MapC T' U'} {cc : MapC T U} {key : T.den} (hd : E.td t = some (.map T U)) (hx : opd S x = .mp m) (hob : S.ob m = .map T' U' c') (hc : castM T' U' T U c' = some cc) (hk : implode T (opd S k) = some key) :
    ∃ b mes kt et, MapAt P c S μ a w t x k m b T U cc key mes kt et := by
  have hdd := hE _ _ hd
  simp only [TDOK] at hdd
  obtain ⟨_, kt, et, hu, hT, hU, hflat, hht⟩ := hdd
  obtain ⟨e1, e2, e3⟩ := castM_some hc
  subst e1; subst e2; subst e3
  have hxv := hsr.slots.opd x
  rw [hx] at hxv
  have hm := hxv.mp hob
  have hor := hsr.objs.each m
  simp only [OR, hob] at hor
  obtain ⟨b, mes, h1, h2, h3, h4⟩ := hor
  have hkr := VR.implode' hk (hsr.slots.opd k)
  refine ⟨b, mes, kt, et, hob, h1, by rw [← hm, h1], h2, h3, h4, hu, hU, hflat, hkr, fun e => ?_, findKey_ok hT hflat hht hkr h3⟩
  have := checkKey_ok (P := P) (w := w) (A := av c S.ob μ) T' kt key _ 9999 e hT hflat hkr.1 (by omega)
  rwa [← val_wrap hkr.2] at this
theorem mapUpdate_core (hE : EnvTy P E) (hsr : SR c S μ a w) {t : TypeId} {x k y : Operand} (hexec : execOp a.eval o = (do Instr.mapUpdate t (a.eval x) (a.eval k) (a.eval y); pure .skip)) {T U T' U' : Ty} {m : Nat} {c' : MapC T' U'} {cc : MapC T U} {key : T.den} {val : U.den}
    (htd : E.td t = some (.map T U)) (hx : opd S x = .mp m) (hob : S.ob m = .map T' U' c') (hc : castM T' U' T U c' = some cc) (hk : implode T (opd S k) = some key) (hv : implode U (opd S y) = some val) (hno : noIter m S.objs = true)
    (h : K ((S.setOb m (.map T U (mput (keq T) key val cc))).put o.dst .undef) = some r) (hd : ∀ t, o.dst = some t → t ∈ ds) (hn' : n ≤ S.objs.length)
    (hnext : ∀ S' μ' a' w', K S' = some r → SR c S' μ' a' w' → Ag n ds S μ S' μ' → next a' w') : o.wp P a w next Q := by
  obtain ⟨b, mes, kt, et, M⟩ := map_at hE hsr htd hx hob hc hk
  have hvr := VR.implode' hv (hsr.slots.opd y)
  obtain ⟨r', hf1, hf2⟩ := M.find
  have hundef : ∀ w', Keep (· = b) w w' → VR w' (av c S.ob μ) (upd S.ob m (.map T U (mput (keq T) key val cc))) μ .undef Go.undef := fun w' _ => .mk_undef
  rcases hf2.spec with ⟨rfl, s1, _⟩ | ⟨es1, z, es2, ms1, e, ms2, g1, g2, g3, g4, rfl, s1, s2, s3, _⟩
  · have e1 : mput (keq T) key val cc = (cc.1 ++ [(key, val, cc.2)], cc.2 + 1) := by simp only [mput, s1, cond_false]
    refine wp_skip' (w' := { w with heap := w.heap.setIfInBounds b (.map (mes.push { key := a.eval k, val := a.eval y, born := cc.2 }) (cc.2 + 1)) }) ?_ ?_
    · rw [hexec]
      simp [Instr.mapUpdate, Sem.run_bind, run_underlying M.under, M.ev, MapKept.run_getObj_map M.heap, M.chk, hf1, MapKept.run_setObj_map _ M.heap, Result.andThen_ok]
    · have := hsr.writeMap (cc' := mput (keq T) key val cc) (mes' := mes.push { key := a.eval k, val := a.eval y, born := cc.2 }) M.ob M.mu M.heap (by
        rw [e1, Array.toList_push]
        exact M.ents.app (Ents.one M.keyR hvr rfl (by simp only [Ents]))) (M.born.put (keq T) key val) hno hd hn' hundef h hnext
      rw [e1] at this
      exact this
  · have e1 : mput (keq T) key val cc = (es1 ++ (z.1, val, z.2.2) :: es2, cc.2) := by simp only [mput, s1, cond_true, s3]
    have hent := M.ents
    rw [g1, g2] at hent
    obtain ⟨k1, k2, k3, k4, k5⟩ := hent.split g3
    have hkz : a.eval k = e.key := by
      have := keq_eq _ _ _ g4
      exact KeyR.eq M.flat (this ▸ M.keyR) k2
    have hget := get_mid _ _ _ _ g2
    refine wp_skip' (w' := { w with heap := w.heap.setIfInBounds b (.map (mes.modify ms1.length fun e => { e with key := a.eval k, val := a.eval y }) cc.2) }) ?_ ?_
    · rw [hexec]
      have hs : Instr.sameBits 10000 e.key (a.eval k) = true := by rw [hkz]; exact k2.sameBits M.flat 9999
      simp [Instr.mapUpdate, Sem.run_bind, run_underlying M.under, M.ev, MapKept.run_getObj_map M.heap, M.chk, hf1, MapKept.run_setObj_map _ M.heap, Result.andThen_ok, hget, Instr.keyThatStays, hs]
    · have := hsr.writeMap (cc' := mput (keq T) key val cc) (mes' := mes.modify ms1.length fun e => { e with key := a.eval k, val := a.eval y }) M.ob M.mu M.heap (by
        rw [e1, modify_mid _ _ _ _ g2]
        exact k1.app (Ents.one (by rw [hkz]; exact k2) hvr k4 k5)) (M.born.put (keq T) key val) hno hd hn' hundef h hnext
      rw [e1] at this
      exact this
theorem mapUpdate_sound (hE : EnvTy P E) (hsr : SR c S μ a w) {t : TypeId} {x k y : Operand} (hop : o.op = .mapUpdate t x k y ∨ o.op = .insert t x k y) (h : evF E o S al K = some r) (hd : ∀ t, o.dst = some t → t ∈ ds) (hn' : n ≤ S.objs.length)
    (hnext : ∀ S' μ' a' w', K S' = some r → SR c S' μ' a' w' → Ag n ds S μ S' μ' → next a' w') : o.wp P a w next Q := by
  rcases hop with hop | hop <;> simp only [evF, hop] at h
  all_goals
    split at h
    · rename_i T U htd
      split at h
      · rename_i m hx
        split at h
        · rename_i T' U' c' hob
          obtain ⟨cc, hc, h⟩ := optK_some h
          obtain ⟨key, hk, h⟩ := optK_some h
          obtain ⟨val, hv, h⟩ := optK_some h
          obtain ⟨hno, h⟩ := cond_some h
          exact mapUpdate_core hE hsr (by simp only [execOp, hop]) htd hx hob hc hk hv hno h hd hn' hnext
        · cases h
      · cases h
    · cases h
theorem mapEntry_sound (hE : EnvTy P E) (hsr : SR c S μ a w) {t : TypeId} {x k : Operand} (hop : o.op = .mapEntry t x k) (h : evF E o S al K = some r) (hd : ∀ t, o.dst = some t → t ∈ ds) (hn' : n ≤ S.objs.length)
    (hnext : ∀ S' μ' a' w', K S' = some r → SR c S' μ' a' w' → Ag n ds S μ S' μ' → next a' w') : o.wp P a w next Q := by
  simp only [evF, hop] at h
  split at h
  · rename_i T U htd
    split at h
    · rename_i m hx
      split at h
      · rename_i T' U' c' hob
        obtain ⟨cc, hc, h⟩ := optK_some h
        obtain ⟨key, hk, h⟩ := optK_some h
        obtain ⟨hno, h⟩ := cond_some h
        obtain ⟨b, mes, kt, et, M⟩ := map_at hE hsr htd hx hob hc hk
        obtain ⟨r', hf1, hf2⟩ := M.find
        obtain ⟨zv, hz1, hz2⟩ := zero_val (P := P) (w := w) (A := av c S.ob μ) M.elem
        have hbk : av c S.ob μ b := .inr ⟨m, by rw [M.ob]; rfl, by rw [M.mu]; rfl⟩
        have hres : ∀ (u : U.den) (v : Value) (nn : Nat), KeyR w (av c S.ob μ) U u v → ∀ (cc' : MapC T U) w', Keep (· = b) w w' → VR w' (av c S.ob μ) (upd S.ob m (.map T U cc')) μ (.tup [explode U u, .int .i64 (nn : Int)]) (.tuple #[v, goInt (nn : Int)]) := by
          intro u v nn hu cc' w' hkp
          have hu' := hu.keep hkp (A' := av c S.ob μ) (fun _ _ h => h) (fun x e => by subst e; exact hbk)
          refine .of_one ?_ rfl rfl
          simp only [CR, TRs]
          exact ⟨_, rfl, _, _, rfl, VR.data hu'.1 hu'.2, _, _, rfl, .inr ⟨rfl, rfl⟩, rfl⟩
        rcases hf2.spec with ⟨rfl, s1, s2, _, _, s5⟩ | ⟨es1, z, es2, ms1, e, ms2, g1, g2, g3, g4, rfl, s1, s2, s3, _, s5⟩
        · have e1 : mopen (keq T) U.dflt key cc = (cc.1 ++ [(key, U.dflt, cc.2)], cc.2 + 1) := by simp only [mopen, s1, cond_false]
          refine wp_value (v := .tuple #[zv, goInt cc.2]) (w' := { w with heap := w.heap.setIfInBounds b (.map (mes.push { key := a.eval k, val := zv, born := cc.2 }) (cc.2 + 1)) }) ?_ ?_
          · simp only [execOp, hop]
            refine run_val ?_
            simp [Instr.mapEntry, Sem.run_bind, run_underlying M.under, M.ev, MapKept.run_getObj_map M.heap, M.chk, hf1, MapKept.run_setObj_map _ M.heap, Result.andThen_ok, hz1]
          · have hzz : mget (keq T) U.dflt key cc.1 = U.dflt := by simp [mget, s2]
            rw [s5, hzz] at h
            have := hsr.writeMap (cc' := mopen (keq T) U.dflt key cc) (mes' := mes.push { key := a.eval k, val := zv, born := cc.2 }) M.ob M.mu M.heap (by
              rw [e1, Array.toList_push]
              exact M.ents.app (Ents.one M.keyR hz2 rfl (by simp only [Ents]))) (M.born.open (keq T) U.dflt key) hno hd hn' (hres _ _ _ hz2 _) h hnext
            rw [e1] at this
            exact this
        · have e1 : mopen (keq T) U.dflt key cc = cc := by simp only [mopen, s1, cond_true]
          have hent := M.ents
          rw [g1, g2] at hent
          obtain ⟨k1, k2, k3, k4, k5⟩ := hent.split g3
          have hkz : a.eval k = e.key := by
            have := keq_eq _ _ _ g4
            exact KeyR.eq M.flat (this ▸ M.keyR) k2
          have hget := get_mid _ _ _ _ g2
          refine wp_value (v := .tuple #[e.val, goInt z.2.2]) (w' := { w with heap := w.heap.setIfInBounds b (.map (mes.modify ms1.length fun e => { e with key := a.eval k }) cc.2) }) ?_ ?_
          · simp only [execOp, hop]
            refine run_val ?_
            have hs : Instr.sameBits 10000 e.key (a.eval k) = true := by rw [hkz]; exact k2.sameBits M.flat 9999
            simp [Instr.mapEntry, Sem.run_bind, run_underlying M.under, M.ev, MapKept.run_getObj_map M.heap, M.chk, hf1, MapKept.run_setObj_map _ M.heap, Result.andThen_ok, hget, Instr.keyThatStays, hs, k4]
          · have hzz : mget (keq T) U.dflt key cc.1 = z.2.1 := by simp [mget, s2]
            rw [s5, hzz] at h
            have := hsr.writeMap (cc' := mopen (keq T) U.dflt key cc) (mes' := mes.modify ms1.length fun e => { e with key := a.eval k }) M.ob M.mu M.heap (by
              rw [e1, modify_mid _ _ _ _ g2, g1]
              exact k1.app (Ents.one (by rw [hkz]; exact k2) k3 k4 k5)) (M.born.open (keq T) U.dflt key) hno hd hn' (hres _ _ _ k3 _) h hnext
            rw [e1] at this
            exact this
      · cases h
    · cases h
  · cases h
theorem born_find {T U : Ty} {A : Nat → Prop} {bb : Int} : ∀ {es : List (T.den × U.den × Nat)} {mes : List MapEntry}, Ents w A T U es mes → bhas bb es = true → ∃ es1 x es2 ms1 e ms2, es = es1 ++ x :: es2 ∧ mes = ms1 ++ e :: ms2 ∧ es1.length = ms1.length ∧
    (∀ v, bput bb v es = es1 ++ (x.1, v, x.2.2) :: es2) ∧ mes.findIdx? (fun e => (e.born : Int) == bb) = some ms1.length
  | [], mes, h, hb => by simp [bhas] at hb
  | x :: es, mes, h, hb => by
    simp only [Ents] at h
    obtain ⟨e, r, rfl, h1, h2, h3, h4, h5, h6⟩ := h
    simp only [bhas] at hb
    cases hx : (@BEq.beq Int _ (x.2.2 : Int) bb)
    · rw [hx, cond_false] at hb
      obtain ⟨es1, y, es2, ms1, f, ms2, g1, g2, g3, g4, g5⟩ := born_find h6 hb
      refine ⟨x :: es1, y, es2, e :: ms1, f, ms2, by rw [g1]; rfl, by rw [g2]; rfl, by simp [g3], fun v => by simp only [bput, hx, cond_false, g4]; rfl, ?_⟩
      rw [List.findIdx?_cons, h5, hx, g5]; simp
    · refine ⟨[], x, es, [], e, r, rfl, rfl, rfl, fun v => by simp only [bput, hx, cond_true]; rfl, ?_⟩
      rw [List.findIdx?_cons, h5, hx]; simp
theorem entryStore_sound (hE : EnvTy P E) (hsr : SR c S μ a w) {t : TypeId} {x y z : Operand} (hop : o.op = .entryStore t x y z) (h : evF E o S al K = some r) (hd : ∀ t, o.dst = some t → t ∈ ds) (hn' : n ≤ S.objs.length)
    (hnext : ∀ S' μ' a' w', K S' = some r → SR c S' μ' a' w' → Ag n ds S μ S' μ' → next a' w') : o.wp P a w next Q := by
  simp only [evF, hop] at h
  split at h
  · rename_i T U htd
    split at h
    · rename_i m hx
      split at h
      · rename_i T' U' c' hob
        obtain ⟨cc, hc, h⟩ := optK_some h
        obtain ⟨bb, hb, h⟩ := optK_some h
        obtain ⟨val, hv, h⟩ := optK_some h
        obtain ⟨hno, h⟩ := cond_some h
        simp only [Bool.and_eq_true] at hno
        obtain ⟨hno, hhas⟩ := hno
        have hvr := VR.implode' hv (hsr.slots.opd z)
        obtain ⟨e1, e2, e3⟩ := castM_some hc
        subst e1; subst e2; subst e3
        have hxv := hsr.slots.opd x
        rw [hx] at hxv
        have hm := hxv.mp hob
        have hor := hsr.objs.each m
        simp only [OR, hob] at hor
        obtain ⟨b, mes, h1, h2, h3, h4⟩ := hor
        have hyv := hsr.slots.opd y
        rw [asInt?_some hb] at hyv
        have hy := hyv.int
        obtain ⟨es1, q, es2, ms1, e, ms2, g1, g2, g3, g4, g5⟩ := born_find h3 hhas
        have hent := h3
        rw [g1, g2] at hent
        obtain ⟨k1, k2, k3, k4, k5⟩ := hent.split g3
        have g5' : mes.findIdx? (fun e => (e.born : Int) == bb) = some ms1.length := by
          have : ∀ (p : MapEntry → Bool), mes.findIdx? p = mes.toList.findIdx? p := fun p => by cases mes; simp
          rw [this]; exact g5
        refine wp_skip' (w' := { w with heap := w.heap.setIfInBounds b (.map (mes.modify ms1.length fun e => { e with val := a.eval z }) c'.2) }) ?_ ?_
        · simp only [execOp, hop]
          rw [← hm, h1]
          simp [Instr.entryStore, Sem.run_bind, hy, asInt, asIntOf, MapKept.run_getObj_map h2, MapKept.run_setObj_map _ h2, Result.andThen_ok, g5']
        · exact hsr.writeMap (cc' := (bput bb val c'.1, c'.2)) (mes' := mes.modify ms1.length fun e => { e with val := a.eval z }) hob h1 h2 (by
            simp only
            rw [g4, modify_mid _ _ _ _ g2]
            exact k1.app (Ents.one k2 hvr k4 k5)) (h4.bput bb val) hno hd hn' (fun w' _ => .mk_undef) h hnext
      · cases h
    · cases h
  · cases h
theorem delete_sound (hE : EnvTy P E) (hsr : SR c S μ a w) {c0 : Call} (hop : o.op = .call c0) (hcal : c0.callee = .builtin .delete) (h : evF E o S al K = some r) (hd : ∀ t, o.dst = some t → t ∈ ds) (hn' : n ≤ S.objs.length)
    (hnext : ∀ S' μ' a' w', K S' = some r → SR c S' μ' a' w' → Ag n ds S μ S' μ' → next a' w') : o.wp P a w next Q := by
  simp only [evF, hop, hcal] at h
  split at h
  · rename_i mm kk t l hargs htypes
    split at h
    · rename_i T U htd
      split at h
      · rename_i m
        split at h
        · rename_i T' U' c' hob
          obtain ⟨cc, hc, h⟩ := optK_some h
          obtain ⟨key, hk, h⟩ := optK_some h
          obtain ⟨hno, h⟩ := cond_some h
          obtain ⟨x, k, hl, hx, hkk⟩ := map_two hargs
          rw [← hkk] at hk
          obtain ⟨b, mes, kt, et, M⟩ := map_at hE hsr htd hx hob hc hk
          obtain ⟨r', hf1, hf2⟩ := M.find
          have hres : ∀ (cc' : MapC T U) w', Keep (· = b) w w' → VR w' (av c S.ob μ) (upd S.ob m (.map T U cc')) μ (.tup []) (.tuple #[]) := fun cc' w' _ => by
            refine .of_one ?_ rfl rfl
            simp only [CR, TRs]
            exact ⟨_, rfl, rfl⟩
          have h0 : c0.argTypes[0]? = some t := by rw [← Array.getElem?_toList, htypes]; rfl
          have ha0 : (c0.args.map a.eval)[0]? = some (a.eval x) := by rw [← Array.getElem?_toList]; simp [hl]
          have ha1 : (c0.args.map a.eval)[1]? = some (a.eval k) := by rw [← Array.getElem?_toList]; simp [hl]
          obtain ⟨q, hq⟩ := run_builtin (P := P) (a := a) (w := w) hop hcal
          rcases hf2.spec with ⟨rfl, s1, s2, _, s4, s5⟩ | ⟨es1, z, es2, ms1, e, ms2, g1, g2, g3, g4, rfl, s1, s2, s3, s4, s5⟩
          · refine wp_value (v := .tuple #[]) (w' := { w with heap := w.heap.setIfInBounds b (.map mes cc.2) }) ?_ ?_
            · rw [hq]
              simp only [builtin]
              refine run_val ?_
              simp [Builtin.delete_, h0, ha0, ha1, Sem.run_bind, run_underlying M.under, M.ev, MapKept.run_getObj_map M.heap, M.chk, hf1, MapKept.run_setObj_map _ M.heap, Result.andThen_ok]
            · exact hsr.writeMap (cc' := (mdel (keq T) key cc.1, cc.2)) (mes' := mes) M.ob M.mu M.heap (by simp only; rw [s4]; exact M.ents) (M.born.del (keq T) key) hno hd hn' (hres _) h hnext
          · have hent := M.ents
            rw [g1, g2] at hent
            obtain ⟨k1, k2, k3, k4, k5⟩ := hent.split g3
            have her : (mes.eraseIdxIfInBounds ms1.length).toList = ms1 ++ ms2 := by
              rw [Array.toList_eraseIdxIfInBounds, g2]
              have : ∀ (l : List MapEntry), (l ++ e :: ms2).eraseIdx l.length = l ++ ms2 := by
                intro l
                induction l with
                | nil => rfl
                | cons a l ih => simp [List.eraseIdx, ih]
              exact this ms1
            refine wp_value (v := .tuple #[]) (w' := { w with heap := w.heap.setIfInBounds b (.map (mes.eraseIdxIfInBounds ms1.length) cc.2) }) ?_ ?_
            · rw [hq]
              simp only [builtin]
              refine run_val ?_
              simp [Builtin.delete_, h0, ha0, ha1, Sem.run_bind, run_underlying M.under, M.ev, MapKept.run_getObj_map M.heap, M.chk, hf1, MapKept.run_setObj_map _ M.heap, Result.andThen_ok]
            · exact hsr.writeMap (cc' := (mdel (keq T) key cc.1, cc.2)) (mes' := mes.eraseIdxIfInBounds ms1.length) M.ob M.mu M.heap (by simp only; rw [s4, her]; exact k1.app k5) (M.born.del (keq T) key) hno hd hn' (hres _) h hnext
        · cases h
      · cases h
    · cases h
  · cases h
end
end Go.Vm

/- Vm, part 13: append; a cut of a row. Own work. -/
set_option linter.unusedVariables false
set_option linter.unusedSimpArgs false
set_option linter.unusedSectionVars false
namespace Go.Vm
variable [MonotC]
open Go.RowKit

section
variable {P : Program} {E : Env} {c : Cx} {S : St} {μ : Nat → Value} {a : Act} {w : World} {o : Oper} {al n : Nat} {ds : List Nat} {ρ : Type} {r : ρ} {K : St → Option ρ} {next : Act → World → Prop} {Q : Exit → Act → World → Prop}
/-- cells, element by element -/
def Elems (w : World) (A : Nat → Prop) (T : Ty) (xs : List T.den) (cs : List Value) : Prop :=
  cs.length = xs.length * T.cells ∧ (∀ v ∈ cs, v.oneCell' = true) ∧ ∀ i x, nth (α := T.den) xs i = some x → ∃ cx, DR w A T x cx ∧ ∀ j v, cx[j]? = some v → cs[i * T.cells + j]? = some v
theorem elems_of {A : Nat → Prop} {T : Ty} {xs : List T.den} {b off : Nat} (h : ∀ i x, nth (α := T.den) xs i = some x → ∃ cx, DR w A T x cx ∧ ∀ j v, cx[j]? = some v → w.cell? ⟨b, off + i * T.cells + j, none⟩ = some v) :
    ∃ cs, Elems w A T xs cs ∧ ∀ d, (loadCells ⟨b, off, none⟩ (xs.length * T.cells)).run P { w with drawn := d } = .ok cs.toArray { w with drawn := d } := by
  have hcell : ∀ j, j < xs.length * T.cells → ∃ v, w.cell? ⟨b, off + j, none⟩ = some v ∧ v.oneCell' = true := fun j hj => by
    have hp : 0 < T.cells := Nat.pos_of_ne_zero (fun e => by rw [e] at hj; simp at hj)
    have hi : j / T.cells < xs.length := by rw [Nat.div_lt_iff_lt_mul hp]; exact hj
    obtain ⟨cx, h1, h2⟩ := h (j / T.cells) xs[j / T.cells] (by simp [nth, hi])
    have hr : j % T.cells < cx.length := by rw [DR.len _ _ _ h1]; exact Nat.mod_lt _ hp
    have h3 := h2 (j % T.cells) _ (List.getElem?_eq_getElem hr)
    have e : off + j / T.cells * T.cells + j % T.cells = off + j := by
      have := Nat.div_add_mod j T.cells
      rw [Nat.mul_comm] at this; omega
    rw [e] at h3
    exact ⟨_, h3, DR.plain _ _ _ h1 _ (List.getElem_mem hr)⟩
  let f : Nat → Value := fun j => (w.cell? ⟨b, off + j, none⟩).getD Go.undef
  have hf : ∀ j, j < xs.length * T.cells → w.cell? ⟨b, off + j, none⟩ = some (f j) := fun j hj => by
    obtain ⟨v, hv, _⟩ := hcell j hj
    simp only [f, hv, Option.getD_some]
  refine ⟨(List.range (xs.length * T.cells)).map f, ⟨by simp, fun v hv => ?_, fun i x hx => ?_⟩, ?_⟩
  · obtain ⟨j, hj, rfl⟩ := List.mem_map.1 hv
    have hj' := List.mem_range.1 hj
    obtain ⟨v, hv, ho⟩ := hcell j hj'
    have := hf j hj'
    rw [hv] at this
    cases this
    exact ho
  · obtain ⟨cx, h1, h2⟩ := h i x hx
    refine ⟨cx, h1, fun j v hj => ?_⟩
    have hjl := (List.getElem?_eq_some_iff.1 hj).1
    rw [DR.len _ _ _ h1] at hjl
    have hil : i < xs.length := (List.getElem?_eq_some_iff.1 hx).1
    have hb : i * T.cells + j < xs.length * T.cells := by
      have : (i + 1) * T.cells ≤ xs.length * T.cells := Nat.mul_le_mul_right _ hil
      rw [Nat.succ_mul] at this; omega
    have h3 := h2 j v hj
    rw [show off + i * T.cells + j = off + (i * T.cells + j) from by omega, hf _ hb] at h3
    simp only [List.getElem?_map, List.getElem?_range hb, Option.map_some]
    exact h3
  · intro d
    exact run_loadCells { w with drawn := d } _ _ f (fun j hj => by rw [Addr.add_lit]; exact hf j hj)
theorem rowAt_elems {A : Nat → Prop} {T : Ty} {xs : List T.den} {z : Value} (h : RowAt w A T xs z) :
    ∃ a0 c0 cs, z = .slice a0 xs.length c0 ∧ Elems w A T xs cs ∧ ∀ d, (Builtin.firstCells T.cells xs.length z).run P { w with drawn := d } = .ok cs.toArray { w with drawn := d } := by
  rcases h with ⟨h0, a', hm⟩ | ⟨b, off, c0, cs, tt, hm, hheap, _, _, _, hel⟩
  · have : xs = [] := List.length_eq_zero_iff.1 h0
    subst this
    exact ⟨a', 0, [], hm, ⟨by simp, by simp, fun i x hx => by simp [nth] at hx⟩, fun d => by rw [hm]; cases a' <;> simp [Builtin.firstCells, loadCells, loadCellsFrom]⟩
  · obtain ⟨cs', h1, h2⟩ := elems_of (P := P) (w := w) (A := A) (T := T) (xs := xs) (b := b) (off := off) (fun i x hx => by
      obtain ⟨cx, h1, h2⟩ := hel i x hx
      refine ⟨cx, h1, fun j v hj => ?_⟩
      simp only [World.cell?, hheap]
      simpa using h2 j v hj)
    exact ⟨_, c0, cs', hm, h1, fun d => by rw [hm]; simpa [Builtin.firstCells] using h2 d⟩
/-- what is to be appended, or was there -/
theorem asData_sound (hsr : SR c S μ a w) {T : Ty} {x : PV} {ys : List T.den} (h : asData S T x = some ys) {z : Value} (hv : VR w (av c S.ob μ) S.ob μ x z) :
    ∃ a0 c0 cs, z = .slice a0 ys.length c0 ∧ Elems w (av c S.ob μ) T ys cs ∧ ∀ d, (Builtin.firstCells T.cells ys.length z).run P { w with drawn := d } = .ok cs.toArray { w with drawn := d } := by
  unfold asData at h
  split at h
  · rename_i U xs
    obtain ⟨e, h⟩ := castL_some h
    subst e; subst h
    have hd := hv.sl
    simp only [DR] at hd
    obtain ⟨a0, c0, ez, _, hd⟩ := hd
    simp only [List.cons.injEq, and_true] at ez
    rcases hd with hd | ⟨b, off, rfl, _, _, hd⟩
    · subst hd
      refine ⟨a0, c0, [], ez, ⟨by simp, by simp, fun i x hx => by simp [nth] at hx⟩, ?_⟩
      intro d
      rw [ez]
      cases a0 with
      | none => simp [Builtin.firstCells]
      | some a0 => simp [Builtin.firstCells, loadCells, loadCellsFrom]
    · obtain ⟨cs, h1, h2⟩ := elems_of (P := P) hd
      exact ⟨_, c0, cs, ez, h1, fun d => by rw [ez]; simpa [Builtin.firstCells] using h2 d⟩
  · cases h
    exact ⟨none, 0, [], hv.nil, ⟨by simp, by simp, fun i x hx => by simp [nth] at hx⟩, fun d => by rw [hv.nil]; simp [Builtin.firstCells]⟩
  · rename_i ob
    split at h
    · rename_i U xs hob
      obtain ⟨e, h⟩ := castL_some h
      subst e; subst h
      exact rowAt_elems (((hsr.objs.each ob).rowAt hob).head (hv.row hob))
    · cases h
  · rename_i ob l hh
    split at h
    · rename_i U xs hob
      obtain ⟨e, h⟩ := castL_some h
      subst e; subst h
      exact rowAt_elems (((hsr.objs.each ob).rowAt hob).sub (hv.subv hob)).1
    · cases h
  · cases h
theorem growBy_le (newLen : Nat) : ∀ (k c : Nat), c < newLen → Builtin.growBy newLen k c ≤ 2 * newLen + 200
  | 0, c, h => by simp only [Builtin.growBy]; omega
  | k + 1, c, h => by
    simp only [Builtin.growBy]
    rw [if_neg (by omega)]
    by_cases h2 : c + (c + 768) / 4 < newLen
    · exact growBy_le newLen k _ h2
    · cases k with
      | zero => simp only [Builtin.growBy]; omega
      | succ k => simp only [Builtin.growBy]; rw [if_pos (by omega)]; omega
theorem nextcap_le {need cap : Nat} (h : cap < need) : Builtin.nextslicecap need cap ≤ 2 * need + 200 := by
  unfold Builtin.nextslicecap
  split
  · omega
  · split
    · omega
    · exact growBy_le need 4 cap h

theorem run_askRoom' (n : Nat) (w : World) : (askRoom n).run P w = .ok () w := by
  unfold askRoom
  split <;> simp [mark, Sem.run]
/-- what may be appended: a slice, or a string -/
def AppArg (P : Program) (t2 : TypeId) (z : Value) (m : Nat) : Prop := (∃ a0 c0 e2, z = .slice a0 m c0 ∧ P.underlying t2 = some (.slice e2)) ∨ (∃ s, z = .string s ∧ s.size = m ∧ P.underlying t2 = some .string)
theorem run_append_fits {t t2 e ty : TypeId} {T : Ty} (ht : P.underlying t = some (.slice e)) (he : TyOK P e T) {types : Array TypeId} (h1 : types[0]? = some t) (h2 : types[1]? = some t2)
    {b off len cap m : Nat} {cells : Array Value} {tt : TypeId} {z : Value} {cs : List Value} (hz : AppArg P t2 z m) (hh : w.heap[b]? = some (.cells cells tt (0, 0))) (hfit : len + m ≤ cap) (hsz : off + cap * T.cells ≤ cells.size)
    (hx : (Builtin.firstCells T.cells m z).run P w = .ok cs.toArray w) (hl : cs.length = m * T.cells) (hp : ∀ v ∈ cs, v.oneCell' = true) :
    (Builtin.append_ types ty #[.slice (some ⟨b, off, none⟩) len cap, z]).run P w = .ok (.slice (some ⟨b, off, none⟩) (len + m) cap) (w.setRow b (splice cells.toList (off + len * T.cells) cs).toArray) := by
  obtain ⟨i, hi, hs, _⟩ := he.info
  have h3 := run_sizeOf' (w := w) (n := T.cells) ⟨i, hi, hs⟩
  have hst : (storeCells ((⟨b, off, none⟩ : Addr).add (len * T.cells)) cs).run P w = .ok () (w.setRow b (splice cells.toList (off + len * T.cells) cs).toArray) := by
    rw [Addr.add_lit]
    have := run_storeCells_at (P := P) b (off + len * T.cells) tt cs 0 cells w hh (by
      have : (len + m) * T.cells ≤ cap * T.cells := Nat.mul_le_mul_right _ hfit
      rw [Nat.add_mul] at this
      rw [hl]; omega) hp
    rw [this]
    simp only [Nat.add_zero, splice_eq]
  rcases hz with ⟨a0, c0, e2, rfl, ht2⟩ | ⟨sz, rfl, rfl, ht2⟩ <;> (
  unfold Builtin.append_
  simp only [h1, h2, List.getElem?_toArray, List.getElem?_cons_zero, List.getElem?_cons_succ, Sem.run_bind, run_underlying ht, run_underlying ht2, Result.andThen, h3, Sem.run_pure, Bool.false_eq_true, if_false, Builtin.lenOf]
  rw [if_pos hfit]
  simp only [Bool.not_false, if_true, Sem.run_bind, hx, Result.andThen, hst, Sem.run_pure])
/-- nothing is appended to nothing -/
theorem run_append_none {t t2 e ty : TypeId} {T : Ty} (ht : P.underlying t = some (.slice e)) (he : TyOK P e T) {types : Array TypeId} (h1 : types[0]? = some t) (h2 : types[1]? = some t2) {a3 : Option Addr} {z : Value} (hz : AppArg P t2 z 0)
    (hx : (Builtin.firstCells T.cells 0 z).run P w = .ok #[] w) :
    (Builtin.append_ types ty #[.slice a3 0 0, z]).run P w = .ok (.slice a3 0 0) w := by
  obtain ⟨i, hi, hs, _⟩ := he.info
  have h3 := run_sizeOf' (w := w) (n := T.cells) ⟨i, hi, hs⟩
  rcases hz with ⟨a0, c0, e2, rfl, ht2⟩ | ⟨sz, rfl, hs0, ht2⟩
  · cases a3 <;> (
    unfold Builtin.append_
    simp only [h1, h2, List.getElem?_toArray, List.getElem?_cons_zero, List.getElem?_cons_succ, Sem.run_bind, run_underlying ht, run_underlying ht2, Result.andThen, h3, Sem.run_pure, Bool.false_eq_true, if_false, Builtin.lenOf]
    rw [if_pos (by simp)]
    simp only [Bool.not_false, if_true, Sem.run_bind, Result.andThen, Sem.run_pure, hx]
    try simp [storeCells])
  · cases a3 <;> (
    unfold Builtin.append_
    simp only [h1, h2, List.getElem?_toArray, List.getElem?_cons_zero, List.getElem?_cons_succ, Sem.run_bind, run_underlying ht, run_underlying ht2, Result.andThen, h3, Sem.run_pure, Bool.false_eq_true, if_false, Builtin.lenOf, hs0]
    rw [if_pos (by simp)]
    simp only [Bool.not_false, if_true, Sem.run_bind, Result.andThen, Sem.run_pure, hx]
    try simp [storeCells])
theorem run_append_grow {t t2 e ty : TypeId} {T : Ty} (ht : P.underlying t = some (.slice e)) (he : TyOK P e T) {types : Array TypeId} (h1 : types[0]? = some t) (h2 : types[1]? = some t2)
    {len cap m : Nat} {s z : Value} {a1 : Option Addr} {old cs : List Value} (hsv : s = .slice a1 len cap) (hz : AppArg P t2 z m) (hgrow : cap < len + m) (hsm : len + m ≤ 4294967296)
    (ho : (Builtin.firstCells T.cells len s).run P w = .ok old.toArray w) (hx : (Builtin.firstCells T.cells m z).run P w = .ok cs.toArray w)
    (hxd : (Builtin.firstCells T.cells m z).run P { w with drawn := w.drawn + 1 } = .ok cs.toArray { w with drawn := w.drawn + 1 }) (hod : (Builtin.firstCells T.cells len s).run P { w with drawn := w.drawn + 1 } = .ok old.toArray { w with drawn := w.drawn + 1 })
    (hl0 : old.length = len * T.cells) (hl : cs.length = m * T.cells) :
    ∃ newCap rest, len + m ≤ newCap ∧ newCap ≤ 9223372036854775807 ∧ (old ++ cs ++ rest).length = newCap * T.cells ∧
    (Builtin.append_ types ty #[s, z]).run P w = .ok (.slice (some ⟨w.heap.size, 0, none⟩) (len + m) newCap) (({ w with drawn := w.drawn + 1 } : World).alloc (.cells (old ++ cs ++ rest).toArray e (0, 0))) := by
  obtain ⟨i, hi, hs, hzv, hby⟩ := he.info
  have h3 := run_sizeOf' (w := w) (n := T.cells) ⟨i, hi, hs⟩
  have h4 := run_zeroValue' (w := { w with drawn := w.drawn + 1 }) ⟨i, hi, hzv⟩
  let nc := (len + m) + w.tape w.drawn (.appendCap (len + m) cap e) % (2 ^ 63 - (len + m))
  have hmod : w.tape w.drawn (.appendCap (len + m) cap e) % (2 ^ 63 - (len + m)) < 2 ^ 63 - (len + m) := Nat.mod_lt _ (by omega)
  refine ⟨nc, (Builtin.zeroCells (zeroV T).toArray (nc - (len + m))).toList, by omega, by simp only [nc]; omega, ?_, ?_⟩
  · have hz : (Builtin.zeroCells (zeroV T).toArray (nc - (len + m))).toList.length = (nc - (len + m)) * T.cells := by
      simp [Builtin.zeroCells, zeroV_len]
    simp only [List.length_append, hl0, hl, hz]
    rw [← Nat.add_mul, ← Nat.add_mul]
    congr 1
    simp only [nc]; omega
  · subst hsv
    have hnx := nextcap_le hgrow
    have hb48 : ¬ Builtin.nextslicecap (len + m) cap * i.bytes > 2 ^ 48 := by
      have : Builtin.nextslicecap (len + m) cap * i.bytes ≤ (2 * 4294967296 + 200) * 16384 := Nat.mul_le_mul (by omega) hby
      omega
    have hi64 : ¬ (((len + m : Nat) : Int) > IntKind.i64.max) := by
      have : IntKind.i64.max = 9223372036854775807 := by decide
      rw [this]; omega
    have hch : (choose (.appendCap (len + m) cap e)).run P w = .ok nc { w with drawn := w.drawn + 1 } := by
      simp [choose, Sem.run, Question.forced, Question.cut, nc]
    rcases hz with ⟨a0, c0, e2, rfl, ht2⟩ | ⟨sz, rfl, rfl, ht2⟩ <;> (
    unfold Builtin.append_
    simp only [h1, h2, List.getElem?_toArray, List.getElem?_cons_zero, List.getElem?_cons_succ, Sem.run_bind, run_underlying ht, run_underlying ht2, Result.andThen, h3, Sem.run_pure, Bool.false_eq_true, if_false, Builtin.lenOf]
    rw [if_neg (by omega)]
    simp only [typeInfo, Sem.run_bind, run_program, hi, Result.andThen, Sem.run_pure]
    rw [if_neg (fun h => hi64 h.1)]
    simp only [Sem.run_bind, run_program, hi, Result.andThen, Sem.run_pure]
    rw [if_neg hb48]
    simp only [Sem.run_bind, hch, Result.andThen, run_program, hi, Sem.run_pure, run_askRoom', hod, Bool.not_false, if_true, hxd, h4, wrapV_cells zeroV_leaf, run_newRow']
    congr 3
    apply Array.ext'
    simp [List.append_assoc])

theorem run_append_zeros {t t2 e ty : TypeId} {T : Ty} {k2 : IntKind} (ht : P.underlying t = some (.slice e)) (ht2 : P.underlying t2 = some (.int k2)) (he : TyOK P e T) {types : Array TypeId} (h1 : types[0]? = some t) (h2 : types[1]? = some t2)
    {m : Nat} (h0 : 0 < m) (hm : m ≤ 4294967296) :
    ∃ newCap rest, m ≤ newCap ∧ newCap ≤ 9223372036854775807 ∧ ((Builtin.zeroCells (zeroV T).toArray m).toList ++ rest).length = newCap * T.cells ∧
    (Builtin.append_ types ty #[.slice none 0 0, .int .i64 (m : Int)]).run P w = .ok (.slice (some ⟨w.heap.size, 0, none⟩) m newCap) (({ w with drawn := w.drawn + 1 } : World).alloc (.cells ((Builtin.zeroCells (zeroV T).toArray m).toList ++ rest).toArray e (0, 0))) := by
  obtain ⟨i, hi, hs, hzv, hby⟩ := he.info
  have h3 := run_sizeOf' (w := w) (n := T.cells) ⟨i, hi, hs⟩
  have h4 := run_zeroValue' (w := { w with drawn := w.drawn + 1 }) ⟨i, hi, hzv⟩
  let nc := m + w.tape w.drawn (.appendCap m 0 e) % (2 ^ 63 - m)
  have hmod : w.tape w.drawn (.appendCap m 0 e) % (2 ^ 63 - m) < 2 ^ 63 - m := Nat.mod_lt _ (by omega)
  refine ⟨nc, (Builtin.zeroCells (zeroV T).toArray (nc - m)).toList, by omega, by simp only [nc]; omega, ?_, ?_⟩
  · simp only [List.length_append, Builtin.zeroCells, Array.length_toList, Array.size_map, Array.size_range, List.size_toArray, zeroV_len]
    rw [← Nat.add_mul]
    congr 1
    simp only [nc]; omega
  · have hnx := nextcap_le (need := m) (cap := 0) h0
    have hb48 : ¬ Builtin.nextslicecap m 0 * i.bytes > 2 ^ 48 := by
      have : Builtin.nextslicecap m 0 * i.bytes ≤ (2 * 4294967296 + 200) * 16384 := Nat.mul_le_mul (by omega) hby
      omega
    have hi64 : ¬ (((m : Nat) : Int) > IntKind.i64.max) := by
      have : IntKind.i64.max = 9223372036854775807 := by decide
      rw [this]; omega
    have hw : IntKind.i64.wrap (m : Int) = (m : Int) := IntWalk.i64_in _ (by omega)
    have hbytes : i.bytes * m ≤ 16384 * 4294967296 := Nat.mul_le_mul hby hm
    have hbi : (m : Int) * (i.bytes : Int) ≤ 70368744177664 := by
      have := Int.ofNat_le.2 hbytes
      rw [Nat.mul_comm] at this
      simpa using this
    have hb2 : ¬ ((m : Int) * (i.bytes : Int) > 2 ^ 48) := by
      have : (2 : Int) ^ 48 = 281474976710656 := by decide
      rw [this]; omega
    have hch : (choose (.appendCap m 0 e)).run P w = .ok nc { w with drawn := w.drawn + 1 } := by
      simp [choose, Sem.run, Question.forced, Question.cut, nc]
    have hsz : m * T.cells = 0 ↔ T.cells = 0 := by
      rw [Nat.mul_eq_zero]; omega
    unfold Builtin.append_
    simp only [h1, h2, List.getElem?_toArray, List.getElem?_cons_zero, List.getElem?_cons_succ, Sem.run_bind, run_underlying ht, run_underlying ht2, Result.andThen, h3, Sem.run_pure, if_true, asInt, asIntOf, hw]
    rw [if_neg (by omega)]
    simp only [typeInfo, Sem.run_bind, run_program, hi, Result.andThen, Sem.run_pure]
    rw [if_neg hb2]
    simp only [Sem.run_bind, Sem.run_pure, Result.andThen, Int.toNat_natCast, Nat.zero_add]
    rw [if_neg (by omega)]
    simp only [Sem.run_bind, run_program, hi, Result.andThen, Sem.run_pure]
    rw [if_neg (fun h => hi64 h.1)]
    simp only [Sem.run_bind, run_program, hi, Result.andThen, Sem.run_pure]
    rw [if_neg hb48]
    by_cases hc : T.cells = 0
    · simp only [Sem.run_bind, hch, Result.andThen, run_program, hi, Sem.run_pure, run_askRoom', Builtin.firstCells, Bool.not_true, Bool.false_eq_true, if_false, hsz.2 hc, if_true, h4, wrapV_cells zeroV_leaf, run_newRow']
      have hz0 : (Builtin.zeroCells (zeroV T).toArray m) = #[] := by
        simp [Builtin.zeroCells, zeroV_len, hc]
      rw [hz0]
      simp
    · have hne : ¬ m * T.cells = 0 := fun h => hc (hsz.1 h)
      simp only [Sem.run_bind, hch, Result.andThen, run_program, hi, Sem.run_pure, run_askRoom', Builtin.firstCells, Bool.not_true, Bool.false_eq_true, if_false, hne, h4, wrapV_cells zeroV_leaf, run_newRow']
      congr 3
      simp
theorem zero_elems {A : Nat → Prop} {T : Ty} (hpos : 0 < T.cells) (k : Nat) : Elems w A T (List.replicate k T.dflt) (Builtin.zeroCells (zeroV T).toArray k).toList := by
  have hsz : (zeroV T).toArray.size = T.cells := by simp [zeroV_len]
  refine ⟨by simp [Builtin.zeroCells, zeroV_len], fun v hv => ?_, fun i x hx => ?_⟩
  · simp only [Builtin.zeroCells, Array.toList_map, List.mem_map] at hv
    obtain ⟨m, _, rfl⟩ := hv
    have hm : m % (zeroV T).toArray.size < (zeroV T).toArray.size := Nat.mod_lt _ (by omega)
    rw [getElem!_pos (zeroV T).toArray _ hm]
    exact DR.plain _ _ _ (dflt_sound (w := w) (A := A) T) _ (by simp)
  · simp only [nth] at hx
    rw [List.getElem?_replicate] at hx
    split at hx
    · rename_i hlt
      simp only [Option.some.injEq] at hx
      subst hx
      refine ⟨zeroV T, dflt_sound T, fun j v hj => ?_⟩
      have hjl := (List.getElem?_eq_some_iff.1 hj).1
      rw [zeroV_len] at hjl
      have hb1 : i * T.cells + j < k * T.cells := by
        have : (i + 1) * T.cells ≤ k * T.cells := Nat.mul_le_mul_right _ hlt
        rw [Nat.succ_mul] at this; omega
      simp only [Builtin.zeroCells, hsz, Array.toList_map, Array.toList_range, List.getElem?_map, List.getElem?_range hb1, Option.map_some]
      have hm : (i * T.cells + j) % T.cells = j := by
        rw [Nat.mul_comm, Nat.mul_add_mod, Nat.mod_eq_of_lt hjl]
      rw [hm]
      simp [hj]
    · cases hx
theorem elems_append {A : Nat → Prop} {T : Ty} {xs ys : List T.den} {c1 c2 : List Value} (h1 : Elems w A T xs c1) (h2 : Elems w A T ys c2) : Elems w A T (xs ++ ys) (c1 ++ c2) := by
  obtain ⟨l1, p1, e1⟩ := h1
  obtain ⟨l2, p2, e2⟩ := h2
  refine ⟨by rw [List.length_append, List.length_append, l1, l2, Nat.add_mul], fun v hv => ?_, fun i x hx => ?_⟩
  · rcases List.mem_append.1 hv with hv | hv
    · exact p1 v hv
    · exact p2 v hv
  · simp only [nth, List.getElem?_append] at hx
    split at hx
    · rename_i hlt
      obtain ⟨cx, h3, h4⟩ := e1 i x hx
      refine ⟨cx, h3, fun j v hj => ?_⟩
      have h5 := h4 j v hj
      rw [List.getElem?_append_left (List.getElem?_eq_some_iff.1 h5).1]
      exact h5
    · rename_i hge
      obtain ⟨cx, h3, h4⟩ := e2 _ x hx
      refine ⟨cx, h3, fun j v hj => ?_⟩
      have h5 := h4 j v hj
      have hm : xs.length * T.cells ≤ i * T.cells := Nat.mul_le_mul_right _ (by omega)
      rw [List.getElem?_append_right (by omega), l1, show i * T.cells + j - xs.length * T.cells = (i - xs.length) * T.cells + j from by rw [Nat.sub_mul]; omega]
      exact h5
/-- a new row of these elements -/
theorem QR.elems {A : Nat → Prop} {ob : Nat → OB} {T : Ty} {xs : List T.den} {cs rest : List Value} {cap : Nat} {t : TypeId} {w' : World} (h : Elems w A T xs cs) (hw : w' = ({ w with drawn := w.drawn + 1 } : World).alloc (.cells (cs ++ rest).toArray t (0, 0)))
    (hn : xs.length ≤ cap) (hc : cap ≤ 9223372036854775807) (hs : (cs ++ rest).length = cap * T.cells) :
    QR w A ob μ al (.ok (.value (.slice (some ⟨w.heap.size, 0, none⟩) xs.length cap)) w') (.row al) (some (.row T xs)) := by
  have hd : ∀ T' x cx, DR w A T' x cx → DR { w with drawn := w.drawn + 1 } A T' x cx := fun T' x cx h => DR.keep (Keep.drew None w) (fun _ _ h => h) (fun _ h => h.elim) T' x cx h
  obtain ⟨v, w2, e, hk, mv, h1, h2, h3⟩ := QR.row (w := { w with drawn := w.drawn + 1 }) (A := A) (ob := ob) (μ := μ) (al := al) (T := T) (xs := xs) (cs := (cs ++ rest).toArray) (c := cap) (t := t) (w' := w') hw hn hc (by simpa using Nat.le_of_eq hs.symm) (fun i x hx => by
    obtain ⟨cx, h4, h5⟩ := h.2.2 i x hx
    refine ⟨cx, hd _ _ _ h4, fun j v hj => ?_⟩
    have h6 := h5 j v hj
    simp only [List.getElem?_toArray]
    rw [List.getElem?_append_left (List.getElem?_eq_some_iff.1 h6).1]
    exact h6)
  exact ⟨v, w2, e, (Keep.drew None w).trans hk (fun _ h => h) (fun _ _ h => h), mv, h1, h2, h3⟩
theorem isZeros_some {d : Option TD} (h : isZeros d = true) : ∃ k, d = some (.data (.int k)) := by
  unfold isZeros at h
  split at h
  · exact ⟨_, rfl⟩
  · cases h
theorem isStrD_some {d : Option TD} (h : isStrD d = true) : d = some (.data .str) := by
  unfold isStrD at h
  split at h
  · rfl
  · cases h
/-- a string's bytes, as they are appended -/
theorem str_elems (s : ByteArray) (A : Nat → Prop) : ∃ cs, Elems w A (.int .u8) (bytesI s) cs ∧ ∀ d, (Builtin.firstCells 1 s.size (.string s)).run P { w with drawn := d } = .ok cs.toArray { w with drawn := d } := by
  refine ⟨s.data.toList.map fun b => .int .u8 (b.toNat : Int), ⟨?_, fun v hm => ?_, fun i x hx => ?_⟩, fun d => ?_⟩
  · show List.length (List.map _ _) = (bytesI s).length * 1
    rw [List.length_map, Nat.mul_one]
    unfold bytesI
    rw [List.length_map]
  · obtain ⟨b, _, rfl⟩ := List.mem_map.1 hm
    rfl
  · have hx : (s.data.toList.map fun b => (b.toNat : Int))[i]? = some x := hx
    rw [List.getElem?_map] at hx
    cases hb : s.data.toList[i]? with
    | none => rw [hb] at hx; cases hx
    | some b =>
      rw [hb] at hx
      cases hx
      refine ⟨[.int .u8 (b.toNat : Int)], by simp only [DR], fun j v hj => ?_⟩
      obtain rfl : j = 0 := by have := (List.getElem?_eq_some_iff.1 hj).1; simp at this; exact this
      show (s.data.toList.map fun b => Value.int .u8 (b.toNat : Int))[i * 1 + 0]? = _
      rw [Nat.mul_one, Nat.add_zero, List.getElem?_map, hb]
      exact hj
  · have hex : s.extract 0 s.size = s := ByteArray.extract_zero_size
    unfold Builtin.firstCells
    simp only [hex, Sem.run_pure]
    congr 1
    apply Array.ext'
    simp
theorem elems_bytes {A : Nat → Prop} {s : ByteArray} {cs : List Value} (h : Elems w A (.int .u8) (bytesI s) cs) {i : Nat} {b : UInt8} (hb : s.data[i]? = some b) : cs[i]? = some (.int .u8 (b.toNat : Int)) := by
  obtain ⟨cx, h1, h2⟩ := h.2.2 i (b.toNat : Int) (by
    show (s.data.toList.map fun b => (b.toNat : Int))[i]? = _
    rw [List.getElem?_map, Array.getElem?_toList, hb]
    rfl)
  simp only [DR] at h1
  subst h1
  have := h2 0 _ rfl
  rwa [show i * (Ty.int IntKind.u8).cells + 0 = i from by show i * 1 + 0 = i; omega] at this
/-- new bytes -/
theorem QR.bytesN {A : Nat → Prop} {ob : Nat → OB} {s : ByteArray} {cs rest : List Value} {cap : Nat} {w' : World} (h : Elems w A (.int .u8) (bytesI s) cs) (hw : w' = ({ w with drawn := w.drawn + 1 } : World).alloc (.cells (cs ++ rest).toArray byteT (0, 0)))
    (h0 : 0 < s.size) (hn : s.size ≤ cap) (hc : cap ≤ 9223372036854775807) (hs : (cs ++ rest).length = cap) :
    QR w A ob μ al (.ok (.value (.slice (some ⟨w.heap.size, 0, none⟩) s.size cap)) w') (.row al) (some (.bytes s)) := by
  subst hw
  refine ⟨_, _, rfl, (Keep.drew None w).trans (Keep.alloc None _ _ _) (fun _ h => h) (fun _ _ h => h), .slice (some ⟨w.heap.size, 0, none⟩) s.size cap, fun x hx => ?_, ?_, ?_⟩
  · simp only [blkOf, Option.some.injEq] at hx; subst hx; simp
  · unfold OR
    rw [upd_same, upd_same]
    refine .inr ⟨h0, w.heap.size, cap, (cs ++ rest).toArray, rfl, alloc_at _ _, hn, hc, by simpa using Nat.le_of_eq hs.symm, fun i b hb => ?_⟩
    have h5 := elems_bytes h hb
    rw [List.getElem?_toArray, List.getElem?_append_left (List.getElem?_eq_some_iff.1 h5).1]
    exact h5
  · refine .of_one ?_ rfl rfl
    simp only [CR, upd_same]
    exact ⟨_, rfl, rfl, rfl⟩
theorem appOf (hE : EnvTy P E) (hsr : SR c S μ a w) {T T2 : Ty} {t2 : TypeId} (hT2 : E.elem t2 = some T2) {x : PV} {ys : List T.den} (h : asData S T x = some ys) {z : Value} (hv : VR w (av c S.ob μ) S.ob μ x z) :
    ∃ cs, AppArg P t2 z ys.length ∧ Elems w (av c S.ob μ) T ys cs ∧ ∀ d, (Builtin.firstCells T.cells ys.length z).run P { w with drawn := d } = .ok cs.toArray { w with drawn := d } := by
  obtain ⟨e2, hte2, _, _⟩ := elem_some hE hT2
  obtain ⟨a0, c0, cs, hz, h1, h2⟩ := asData_sound (P := P) hsr h hv
  exact ⟨cs, .inl ⟨a0, c0, e2, hz, hte2⟩, h1, h2⟩
/-- a string is appended to bytes -/
theorem append_str (hE : EnvTy P E) (hsr : SR c S μ a w) {c0 : Call} (hop : o.op = .call c0) (hcal : c0.callee = .builtin .append) (hd : ∀ t, o.dst = some t → t ∈ ds) (hn : n ≤ al) (hn' : n ≤ S.objs.length)
    (hnext : ∀ S' μ' a' w', K S' = some r → SR c S' μ' a' w' → Ag n ds S μ S' μ' → next a' w') {y1 y2 : Operand} (hA : c0.args = #[y1, y2]) {t t2 : TypeId} (hT : c0.argTypes[0]? = some t ∧ c0.argTypes[1]? = some t2) {T : Ty} (hT1 : E.elem t = some T)
    (htd : E.td t2 = some (.data .str))
    (h : (match opd S y2 with
          | .str z => cond (decide (T = .int .u8) && Nat.beq t bytesT)
            (match opd S y1 with
            | .nil => cond (decide (z.size ≤ 4294967296)) (addK S al o.dst (.row al) (some (.bytes z)) K) none
            | .row ob => match S.ob ob with
              | .bytes s0 => cond (S.fresh al && decide (s0.size + z.size ≤ 4294967296)) (K (((S.setOb ob .dead).new al (.bytes (s0 ++ z))).put o.dst (.row al))) none
              | _ => none
            | _ => none) none
          | _ => none) = some r) : o.wp P a w next Q := by
  split at h
  rotate_left
  · cases h
  rename_i z hx0
  obtain ⟨hc, hh⟩ := cond_some h
  clear h
  simp only [Bool.and_eq_true, decide_eq_true_eq] at hc
  obtain ⟨hTu, hbt⟩ := hc
  subst hTu
  have h := hh
  clear hh
  have hbt := Nat.eq_of_beq_eq_true hbt
  obtain ⟨e, hte, heT, hpos, he8⟩ := elem_byte hE hT1
  have he8 := he8 hbt
  subst he8
  have ht2 : P.underlying t2 = some .string := by
    have := hE _ _ htd
    simp only [TDOK, TyOK] at this
    exact this.2
  have hv1 := hsr.slots.opd y1
  have hv2 := hsr.slots.opd y2
  rw [hx0] at hv2
  have ez := hv2.str
  obtain ⟨cs, hel, hcs⟩ := str_elems (P := P) (w := w) z (av c S.ob μ)
  have hz : AppArg P t2 (a.eval y2) z.size := .inr ⟨z, ez, rfl, ht2⟩
  rw [← ez] at hcs
  have hcl : cs.length = z.size * (Ty.int IntKind.u8).cells := hel.1.trans (congrArg (· * (Ty.int IntKind.u8).cells) (bytesI_len z))
  have hrun : ∀ (v : Value) (w' : World), (Builtin.append_ c0.argTypes o.type #[a.eval y1, a.eval y2]).run P w = .ok v w' → (execOp a.eval o).run P w = .ok (.value v) w' := fun v w' hr => by
    obtain ⟨cc, hcc⟩ := run_builtin (P := P) (a := a) (w := w) hop hcal
    rw [hcc]
    simp only [builtin]
    refine run_val ?_
    simpa [hA] using hr
  split at h
  · rename_i hs0
    rw [hs0] at hv1
    have e1 := hv1.nil
    obtain ⟨hlim, h⟩ := cond_some h
    simp only [decide_eq_true_eq] at hlim
    have hfr := fresh_iff (cond_some h).1
    have hk := (cond_some h).2
    by_cases h0 : z.size = 0
    · have hcs0 : cs = [] := List.length_eq_zero_iff.1 (by rw [hcl, h0]; simp)
      subst hcs0
      have hr : (Builtin.append_ c0.argTypes o.type #[a.eval y1, a.eval y2]).run P w = .ok (.slice none 0 0) w := by
        rw [e1]
        have hx := hcs w.drawn
        rw [h0] at hx hz
        exact run_append_none hte heT hT.1 hT.2 hz hx
      refine wp_value (hrun _ _ hr) ?_
      obtain ⟨μ', h1, h2⟩ := hsr.add (d := o.dst) (al := al) (w' := w) (pv := .row al) (v := .slice none 0 0) (nb := some (.bytes z)) (Keep.refl _ _) (fun _ _ => hfr)
        ⟨.slice none 0 0, fun x hx => by simp [blkOf] at hx, by unfold OR; rw [upd_same, upd_same]; exact .inl ⟨h0, rfl⟩, .of_one (by simp only [CR, upd_same]; exact ⟨_, rfl, rfl, rfl⟩) rfl rfl⟩
      exact hnext _ μ' _ _ hk h1 (h2 n ds hd hn hn')
    · obtain ⟨nc, rest, h1, h2, h3, h4⟩ := run_append_grow (P := P) (w := w) (ty := o.type) hte heT hT.1 hT.2 (len := 0) (cap := 0) (m := z.size) (s := a.eval y1) (z := a.eval y2) (old := []) (cs := cs) e1 hz (by omega) (by omega)
        (by rw [e1]; simp [Builtin.firstCells]) (hcs w.drawn) (hcs _) (by rw [e1]; simp [Builtin.firstCells]) (by simp) hcl
      rw [Nat.zero_add, List.nil_append] at h4
      have hq := QR.bytesN (μ := μ) (al := al) (ob := S.ob) (rest := rest) hel rfl (by omega) (by simpa using h1) h2 (by simpa [Ty.cells] using h3)
      obtain ⟨v, w', hr, hkp, hvr⟩ := hq
      simp only [Result.ok.injEq, Next.value.injEq] at hr
      obtain ⟨rfl, rfl⟩ := hr
      refine wp_value (hrun _ _ h4) ?_
      obtain ⟨μ', h5, h6⟩ := hsr.add (d := o.dst) (al := al) (nb := some (.bytes z)) hkp (fun _ _ => hfr) hvr
      exact hnext _ μ' _ _ hk h5 (h6 n ds hd hn hn')
  · rename_i ob hs0
    rw [hs0] at hv1
    split at h
    rotate_left
    · cases h
    rename_i s0 hob
    obtain ⟨hlim, hk⟩ := cond_some h
    simp only [Bool.and_eq_true, decide_eq_true_eq] at hlim
    obtain ⟨hfr, hlim⟩ := hlim
    have hfr := fresh_iff hfr
    have hal : (S.ob ob).alive = true := by rw [hob]; rfl
    have hm := hv1.rowB hob
    obtain ⟨a1, c2, old, hsv, heo, hcs0⟩ := rowAt_elems (P := P) (hm ▸ ((hsr.objs.each ob).bytesAt hob))
    have hl0 : List.length (bytesI s0) = s0.size := bytesI_len s0
    have hsv : a.eval y1 = .slice a1 s0.size c2 := hsv.trans (congrArg (fun n => Value.slice a1 n c2) hl0)
    have hcs0 : ∀ d, (Builtin.firstCells (Ty.int IntKind.u8).cells s0.size (a.eval y1)).run P { w with drawn := d } = .ok old.toArray { w with drawn := d } := fun d => (congrArg (fun n => (Builtin.firstCells (Ty.int IntKind.u8).cells n (a.eval y1)).run P { w with drawn := d }) hl0.symm).trans (hcs0 d)
    have hol : old.length = s0.size * (Ty.int IntKind.u8).cells := heo.1.trans (congrArg (· * (Ty.int IntKind.u8).cells) hl0)
    have hor := hsr.objs.each ob
    simp only [OR, hob] at hor
    have hcat : Elems w (av c S.ob μ) (.int .u8) (bytesI (s0 ++ z)) (old ++ cs) := by
      rw [bytesI_app]
      exact elems_append heo hel
    have hsz2 : (s0 ++ z).size = s0.size + z.size := ByteArray.size_append
    by_cases hfit : s0.size + z.size ≤ c2 ∧ ¬ (s0.size = 0 ∧ μ ob = .slice none 0 0)
    · obtain ⟨hfit, hnn⟩ := hfit
      rcases hor with hor | ⟨h0s, b, c3, cells, hm', hheap, hlc, hc63, hsz, hel0⟩
      · exact absurd hor hnn
      · rw [hm'] at hm
        rw [← hm] at hsv
        simp only [Value.slice.injEq] at hsv
        obtain ⟨rfl, _, rfl⟩ := hsv
        have hr := run_append_fits (P := P) (w := w) (ty := o.type) hte heT hT.1 hT.2 (b := b) (off := 0) (len := s0.size) (cap := c3) (m := z.size) hz hheap hfit (by show 0 + c3 * 1 ≤ cells.size; omega) (hcs w.drawn) hcl hel.2.1
        rw [hm] at hr
        refine wp_value (hrun _ _ hr) ?_
        have h1c : (Ty.int IntKind.u8).cells = 1 := rfl
        rw [h1c, Nat.mul_one] at hcl
        have hspl : 0 + s0.size * (Ty.int IntKind.u8).cells + cs.length ≤ cells.toList.length := by
          rw [hcl, h1c]; simp only [Array.length_toList]; omega
        have hbk : av c S.ob μ b := .inr ⟨ob, hal, by rw [hm']; rfl⟩
        obtain ⟨μ', h5, h6⟩ := hsr.consume (o := ob) (al := al) (nb := .bytes (s0 ++ z)) (mv := .slice (some ⟨b, 0, none⟩) (s0.size + z.size) c3) (d := o.dst) (pv := .row al) hal hfr rfl
          (w' := w.setRow b (splice cells.toList (0 + s0.size * (Ty.int IntKind.u8).cells) cs).toArray) ((Keep.setRow w b _).mono (fun x _ e => by rw [hm']; simp [blkOf, e]))
          (fun x hx => by simp only [blkOf, Option.some.injEq] at hx; subst hx; exact ⟨Nat.lt_of_lt_of_le (hsr.objs.old b hbk) (Keep.setRow w b _).size, .inl (by rw [hm']; rfl)⟩)
          (by
            unfold OR
            rw [upd_same, upd_same]
            refine .inr ⟨by rw [hsz2]; omega, b, c3, _, by rw [hsz2], setRow_at hheap, by rw [hsz2]; exact hfit, hc63, by simp only [List.size_toArray, splice_len hspl, Array.length_toList]; exact hsz, fun i x hx => ?_⟩
            have hx' : (s0.data ++ z.data)[i]? = some x := by rw [← ByteArray.data_append]; exact hx
            rw [Array.getElem?_append] at hx'
            rw [List.getElem?_toArray, getElem?_splice hspl, h1c]
            split at hx'
            · rename_i hlt
              have hlt : i < s0.size := hlt
              rw [if_neg (by omega)]
              simpa using hel0 i x hx'
            · rename_i hge
              have hge : ¬ i < s0.size := hge
              have h9 := elems_bytes hel hx'
              have hlt := (List.getElem?_eq_some_iff.1 h9).1
              have e9 : s0.data.size = s0.size := rfl
              rw [e9] at h9 hlt
              rw [if_pos ⟨by omega, by omega⟩, show i - (0 + s0.size * 1) = i - s0.size from by omega]
              exact h9)
          (.of_one (by simp only [CR, upd_same]; exact ⟨_, rfl, rfl, rfl⟩) rfl rfl)
        exact hnext _ μ' _ _ hk h5 (h6 n ds hd hn hn')
    · by_cases hgr : c2 < s0.size + z.size
      · obtain ⟨nc, rest, h1, h2, h3, h4⟩ := run_append_grow (P := P) (w := w) (ty := o.type) hte heT hT.1 hT.2 hsv hz hgr (by omega) (hcs0 w.drawn) (hcs w.drawn) (hcs _) (hcs0 _) hol hcl
        obtain ⟨v, w', hr, hkp, mv, hb1, hor2, hvr⟩ := QR.bytesN (μ := μ) (al := al) (ob := upd S.ob ob .dead) (rest := rest) hcat rfl (by rw [hsz2]; omega) (by rw [hsz2]; exact h1) h2 (by simpa [Ty.cells] using h3)
        simp only [Result.ok.injEq, Next.value.injEq] at hr
        obtain ⟨rfl, rfl⟩ := hr
        rw [hsz2] at hvr
        refine wp_value (hrun _ _ h4) ?_
        obtain ⟨μ', h5, h6⟩ := hsr.consume (o := ob) (al := al) (nb := .bytes (s0 ++ z)) (mv := mv) (d := o.dst) (pv := .row al) hal hfr rfl (hkp.mono fun _ _ h => h.elim)
          (fun x hx => ⟨(hb1 x hx).2, .inr (hb1 x hx).1⟩) hor2 hvr
        exact hnext _ μ' _ _ hk h5 (h6 n ds hd hn hn')
      · have hnil : s0.size = 0 ∧ μ ob = .slice none 0 0 := by
          rcases Classical.em (s0.size = 0 ∧ μ ob = .slice none 0 0) with h' | h'
          · exact h'
          · exact absurd ⟨by omega, h'⟩ hfit
        obtain ⟨hz0, hnil⟩ := hnil
        rw [hnil] at hm
        have hm := hm.symm
        rw [hm] at hsv
        simp only [Value.slice.injEq] at hsv
        obtain ⟨_, _, hc2⟩ := hsv
        have hy0 : z.size = 0 := by omega
        have hcs1 : cs = [] := List.length_eq_zero_iff.1 (by rw [hcl, hy0]; simp)
        subst hcs1
        have hr : (Builtin.append_ c0.argTypes o.type #[a.eval y1, a.eval y2]).run P w = .ok (.slice none 0 0) w := by
          rw [hm]
          have hx := hcs w.drawn
          rw [hy0] at hx hz
          exact run_append_none hte heT hT.1 hT.2 hz hx
        refine wp_value (hrun _ _ hr) ?_
        obtain ⟨μ', h5, h6⟩ := hsr.consume (o := ob) (al := al) (nb := .bytes (s0 ++ z)) (mv := .slice none 0 0) (d := o.dst) (pv := .row al) hal hfr rfl (Keep.refl _ w)
          (fun x hx => by simp [blkOf] at hx) (by unfold OR; rw [upd_same, upd_same]; exact .inl ⟨by rw [hsz2]; omega, rfl⟩) (v := .slice none 0 0) (.of_one (by simp only [CR, upd_same]; exact ⟨_, rfl, rfl, rfl⟩) rfl rfl)
        exact hnext _ μ' _ _ hk h5 (h6 n ds hd hn hn')
  · cases h
theorem append_sound (hE : EnvTy P E) (hsr : SR c S μ a w) {c0 : Call} (hop : o.op = .call c0) (hcal : c0.callee = .builtin .append) (h : evF E o S al K = some r) (hd : ∀ t, o.dst = some t → t ∈ ds) (hn : n ≤ al) (hn' : n ≤ S.objs.length)
    (hnext : ∀ S' μ' a' w', K S' = some r → SR c S' μ' a' w' → Ag n ds S μ S' μ' → next a' w') : o.wp P a w next Q := by
  simp only [evF, hop, hcal] at h
  split at h
  · rename_i s x t t2 ts hargs htys
    obtain ⟨y1, y2, hy, rfl, rfl⟩ := map_two hargs
    have hA : c0.args = #[y1, y2] := by simpa using congrArg List.toArray hy
    have hT : c0.argTypes[0]? = some t ∧ c0.argTypes[1]? = some t2 := by
      have : c0.argTypes = (t :: t2 :: ts).toArray := by simpa using congrArg List.toArray htys
      rw [this]; simp
    split at h
    · rename_i T hT1
      obtain ⟨e, hte, heT, hpos⟩ := elem_some hE hT1
      cases hzr : isZeros (E.td t2)
      · rw [hzr] at h
        simp only [cond_false] at h
        cases hst : isStrD (E.td t2)
        rotate_left
        · rw [hst] at h
          simp only [cond_true] at h
          exact append_str hE hsr hop hcal hd hn hn' hnext hA hT hT1 (isStrD_some hst) h
        rw [hst] at h
        simp only [cond_false] at h
        split at h
        rotate_left
        · cases h
        rename_i T2 hT2
        obtain ⟨ys, hys, h⟩ := optK_some h
        obtain ⟨cs, hz, hel, hcs⟩ := appOf hE hsr hT2 hys (hsr.slots.opd y2)
        have hv1 := hsr.slots.opd y1
        have hrun : ∀ (v : Value) (w' : World), (Builtin.append_ c0.argTypes o.type #[a.eval y1, a.eval y2]).run P w = .ok v w' → (execOp a.eval o).run P w = .ok (.value v) w' := fun v w' hr => by
          obtain ⟨cc, hcc⟩ := run_builtin (P := P) (a := a) (w := w) hop hcal
          rw [hcc]
          simp only [builtin]
          refine run_val ?_
          simpa [hA] using hr
        split at h
        · rename_i hs0
          rw [hs0] at hv1
          have e1 := hv1.nil
          obtain ⟨hlim, h⟩ := cond_some h
          simp only [decide_eq_true_eq] at hlim
          have hfr := fresh_iff (cond_some h).1
          have hk := (cond_some h).2
          by_cases h0 : ys.length = 0
          · have hys0 : ys = [] := List.length_eq_zero_iff.1 h0
            subst hys0
            have hr : (Builtin.append_ c0.argTypes o.type #[a.eval y1, a.eval y2]).run P w = .ok (.slice none 0 0) w := by
              have hcs0 : cs = [] := List.length_eq_zero_iff.1 (by rw [hel.1]; simp)
              subst hcs0
              rw [e1]
              exact run_append_none hte heT hT.1 hT.2 hz (hcs w.drawn)
            refine wp_value (hrun _ _ hr) ?_
            obtain ⟨μ', h1, h2⟩ := hsr.add (d := o.dst) (al := al) (w' := w) (pv := .row al) (v := .slice none 0 0) (nb := some (.row T [])) (Keep.refl _ _) (fun _ _ => hfr)
              ⟨.slice none 0 0, fun x hx => by simp [blkOf] at hx, by unfold OR; rw [upd_same, upd_same]; exact .inl ⟨rfl, rfl⟩, .of_one (by simp only [CR, upd_same]; exact ⟨_, rfl, rfl, .inl rfl⟩) rfl rfl⟩
            exact hnext _ μ' _ _ hk h1 (h2 n ds hd hn hn')
          · obtain ⟨nc, rest, h1, h2, h3, h4⟩ := run_append_grow (P := P) (w := w) (ty := o.type) hte heT hT.1 hT.2 (len := 0) (cap := 0) (m := ys.length) (s := a.eval y1) (z := a.eval y2) (old := []) (cs := cs) e1 hz (by omega) (by omega)
              (by rw [e1]; simp [Builtin.firstCells]) (hcs w.drawn) (hcs _) (by rw [e1]; simp [Builtin.firstCells]) (by simp) hel.1
            rw [Nat.zero_add, List.nil_append] at h4
            have hq := QR.elems (μ := μ) (al := al) (ob := S.ob) hel rfl (by simpa using h1) h2 (by simpa using h3) (t := e)
            obtain ⟨v, w', hr, hkp, hvr⟩ := hq
            simp only [Result.ok.injEq, Next.value.injEq] at hr
            obtain ⟨rfl, rfl⟩ := hr
            refine wp_value (hrun _ _ h4) ?_
            obtain ⟨μ', h5, h6⟩ := hsr.add (d := o.dst) (al := al) (nb := some (.row T ys)) hkp (fun _ _ => hfr) hvr
            exact hnext _ μ' _ _ hk h5 (h6 n ds hd hn hn')
        · rename_i ob hs0
          rw [hs0] at hv1
          split at h
          · rename_i U zs hob
            obtain ⟨xs, hxs, h⟩ := optK_some h
            obtain ⟨eU, hxs⟩ := castL_some hxs
            subst eU; subst hxs
            obtain ⟨hlim, hk⟩ := cond_some h
            simp only [Bool.and_eq_true, decide_eq_true_eq] at hlim
            obtain ⟨hfr, hlim⟩ := hlim
            have hfr := fresh_iff hfr
            have hal : (S.ob ob).alive = true := by rw [hob]; rfl
            have hm := hv1.row hob
            obtain ⟨a1, c2, old, hsv, heo, hcs0⟩ := asData_sound (P := P) hsr (T := U) (x := .row ob) (ys := zs) (by simp [asData, hob, castL]) hv1
            have hor := hsr.objs.each ob
            simp only [OR, hob] at hor
            -- room, or not
            by_cases hfit : zs.length + ys.length ≤ c2 ∧ ¬ (zs.length = 0 ∧ μ ob = .slice none 0 0)
            · obtain ⟨hfit, hnn⟩ := hfit
              rcases hor with hor | ⟨b, off, c3, cells, tt, hm', hheap, hlc, hc63, hsz, hel0⟩
              · exact absurd hor hnn
              · rw [hm'] at hm
                have hm : Value.slice (some ⟨b, off, none⟩) (List.length zs) c3 = a.eval y1 := hm.elim id (fun h => by cases h.1)
                rw [← hm] at hsv
                simp only [Value.slice.injEq] at hsv
                obtain ⟨rfl, _, rfl⟩ := hsv
                have hr := run_append_fits (P := P) (w := w) (ty := o.type) hte heT hT.1 hT.2 (b := b) (off := off) (len := zs.length) (cap := c3) (m := ys.length) hz hheap hfit hsz (hcs w.drawn) hel.1 hel.2.1
                rw [hm] at hr
                refine wp_value (hrun _ _ hr) ?_
                have hspl : off + zs.length * U.cells + cs.length ≤ cells.toList.length := by
                  have : (zs.length + ys.length) * U.cells ≤ c3 * U.cells := Nat.mul_le_mul_right _ hfit
                  rw [Nat.add_mul] at this
                  rw [hel.1]; simp only [Array.length_toList]; omega
                have hbk : av c S.ob μ b := .inr ⟨ob, hal, by rw [hm']; rfl⟩
                obtain ⟨μ', h5, h6⟩ := hsr.consume (o := ob) (al := al) (nb := .row U (zs ++ ys)) (mv := .slice (some ⟨b, off, none⟩) (zs.length + ys.length) c3) (d := o.dst) (pv := .row al) hal hfr rfl
                  (w' := w.setRow b (splice cells.toList (off + zs.length * U.cells) cs).toArray) ((Keep.setRow w b _).mono (fun x _ e => by rw [hm']; simp [blkOf, e]))
                  (fun x hx => by simp only [blkOf, Option.some.injEq] at hx; subst hx; exact ⟨Nat.lt_of_lt_of_le (hsr.objs.old b hbk) (Keep.setRow w b _).size, .inl (by rw [hm']; rfl)⟩)
                  (by
                    unfold OR
                    rw [upd_same, upd_same]
                    refine .inr ⟨b, off, c3, _, tt, by rw [List.length_append], setRow_at hheap, by rw [List.length_append]; exact hfit, hc63, by simp only [List.size_toArray, splice_len hspl, Array.length_toList]; exact hsz, fun i x hx => ?_⟩
                    have hkp : ∀ T' x cx, DR w (av c S.ob μ) T' x cx → DR (w.setRow b (splice cells.toList (off + zs.length * U.cells) cs).toArray) (addA (av c S.ob μ) (.slice (some ⟨b, off, none⟩) (zs.length + ys.length) c3)) T' x cx := fun T' x cx h =>
                      DR.keep (Keep.setRow w b _) (fun y _ hy => by
                        rcases hy with hy | hy
                        · exact hy
                        · simp only [blkOf, Option.some.injEq] at hy; subst hy; exact hbk) (fun y e => by subst e; exact hbk) T' x cx h
                    simp only [nth, List.getElem?_append] at hx
                    split at hx
                    · rename_i hlt
                      obtain ⟨cx, h7, h8⟩ := hel0 i x hx
                      refine ⟨cx, hkp _ _ _ h7, fun j v hj => ?_⟩
                      have hjl := (List.getElem?_eq_some_iff.1 hj).1
                      rw [DR.len _ _ _ h7] at hjl
                      have : (i + 1) * U.cells ≤ zs.length * U.cells := Nat.mul_le_mul_right _ hlt
                      rw [Nat.succ_mul] at this
                      simp only [List.getElem?_toArray]
                      rw [getElem?_splice hspl, if_neg (by omega)]
                      simpa using h8 j v hj
                    · rename_i hge
                      obtain ⟨cx, h7, h8⟩ := hel.2.2 _ x hx
                      refine ⟨cx, hkp _ _ _ h7, fun j v hj => ?_⟩
                      have h9 := h8 j v hj
                      have hlt := (List.getElem?_eq_some_iff.1 h9).1
                      have hmm : zs.length * U.cells ≤ i * U.cells := Nat.mul_le_mul_right _ (by omega)
                      have hsub : (i - zs.length) * U.cells = i * U.cells - zs.length * U.cells := Nat.sub_mul _ _ _
                      simp only [List.getElem?_toArray]
                      rw [getElem?_splice hspl, if_pos ⟨by omega, by omega⟩, show off + i * U.cells + j - (off + zs.length * U.cells) = (i - zs.length) * U.cells + j from by omega]
                      exact h9)
                  (.of_one (by simp only [CR, upd_same]; exact ⟨_, rfl, rfl, .inl rfl⟩) rfl rfl)
                exact hnext _ μ' _ _ hk h5 (h6 n ds hd hn hn')
            · by_cases hgr : c2 < zs.length + ys.length
              · obtain ⟨nc, rest, h1, h2, h3, h4⟩ := run_append_grow (P := P) (w := w) (ty := o.type) hte heT hT.1 hT.2 hsv hz hgr (by omega) (hcs0 w.drawn) (hcs w.drawn) (hcs _) (hcs0 _) heo.1 hel.1
                obtain ⟨v, w', hr, hkp, mv, hb1, hor2, hvr⟩ := QR.elems (μ := μ) (al := al) (ob := upd S.ob ob .dead) (elems_append heo hel) rfl (by simpa using h1) h2 h3 (t := e)
                simp only [Result.ok.injEq, Next.value.injEq] at hr
                obtain ⟨rfl, rfl⟩ := hr
                rw [List.length_append] at hvr
                refine wp_value (hrun _ _ h4) ?_
                obtain ⟨μ', h5, h6⟩ := hsr.consume (o := ob) (al := al) (nb := .row U (zs ++ ys)) (mv := mv) (d := o.dst) (pv := .row al) hal hfr rfl (hkp.mono fun _ _ h => h.elim)
                  (fun x hx => ⟨(hb1 x hx).2, .inr (hb1 x hx).1⟩) hor2 hvr
                exact hnext _ μ' _ _ hk h5 (h6 n ds hd hn hn')
              · have hnil : zs.length = 0 ∧ μ ob = .slice none 0 0 := by
                  rcases Classical.em (zs.length = 0 ∧ μ ob = .slice none 0 0) with h' | h'
                  · exact h'
                  · exact absurd ⟨by omega, h'⟩ hfit
                obtain ⟨hz0, hnil⟩ := hnil
                rw [hnil] at hm
                obtain ⟨a3, hm⟩ : ∃ a', a.eval y1 = .slice a' 0 0 := hm.elim (fun h => ⟨_, h.symm⟩) (fun h => h.2)
                rw [hm] at hsv
                simp only [Value.slice.injEq] at hsv
                obtain ⟨_, _, hc2⟩ := hsv
                have hy0 : ys = [] := List.length_eq_zero_iff.1 (by omega)
                have hzs : zs = [] := List.length_eq_zero_iff.1 hz0
                subst hy0 hzs
                have hr : (Builtin.append_ c0.argTypes o.type #[a.eval y1, a.eval y2]).run P w = .ok (.slice a3 0 0) w := by
                  have hcs0 : cs = [] := List.length_eq_zero_iff.1 (by rw [hel.1]; simp)
                  subst hcs0
                  rw [hm]
                  exact run_append_none hte heT hT.1 hT.2 hz (hcs w.drawn)
                refine wp_value (hrun _ _ hr) ?_
                obtain ⟨μ', h5, h6⟩ := hsr.consume (o := ob) (al := al) (nb := .row U ([] ++ [])) (mv := .slice none 0 0) (d := o.dst) (pv := .row al) hal hfr rfl (Keep.refl _ w)
                  (fun x hx => by simp [blkOf] at hx) (by unfold OR; rw [upd_same, upd_same]; exact .inl ⟨rfl, rfl⟩) (v := .slice a3 0 0) (.of_one (by simp only [CR, upd_same]; exact ⟨_, rfl, rfl, .inr ⟨rfl, _, rfl⟩⟩) rfl rfl)
                exact hnext _ μ' _ _ hk h5 (h6 n ds hd hn hn')
          · cases h
        · cases h
      · rw [hzr] at h
        simp only [cond_true] at h
        split at h
        · rename_i m hs0 hx0
          obtain ⟨hlim, h⟩ := cond_some h
          simp only [Bool.and_eq_true, decide_eq_true_eq] at hlim
          obtain ⟨hm0, hm1⟩ := hlim
          obtain ⟨k2, htd⟩ := isZeros_some hzr
          have h2 : P.underlying t2 = some (.int k2) := by
            have := hE _ _ htd
            simp only [TDOK, TyOK] at this
            exact this.2
          have hv1 := hsr.slots.opd y1
          rw [hs0] at hv1
          have e1 := hv1.nil
          have hv2 := hsr.slots.opd y2
          rw [hx0] at hv2
          have e2 := hv2.int
          have hfr := fresh_iff (cond_some h).1
          have hk := (cond_some h).2
          have hrun : ∀ (v : Value) (w' : World), (Builtin.append_ c0.argTypes o.type #[a.eval y1, a.eval y2]).run P w = .ok v w' → (execOp a.eval o).run P w = .ok (.value v) w' := fun v w' hr => by
            obtain ⟨cc, hcc⟩ := run_builtin (P := P) (a := a) (w := w) hop hcal
            rw [hcc]
            simp only [builtin]
            refine run_val ?_
            simpa [hA] using hr
          obtain ⟨q, rfl⟩ : ∃ q : Nat, m = (q : Int) := ⟨m.toNat, by omega⟩
          simp only [Int.toNat_natCast] at hk
          rw [e1, e2] at hrun
          by_cases hq : q = 0
          · subst hq
            have hr : (Builtin.append_ c0.argTypes o.type #[.slice none 0 0, .int .i64 ((0 : Nat) : Int)]).run P w = .ok (.slice none 0 0) w := by
              obtain ⟨i, hi, hs, _⟩ := heT.info
              have h3 := run_sizeOf' (w := w) (n := T.cells) ⟨i, hi, hs⟩
              unfold Builtin.append_
              simp only [hT.1, hT.2, List.getElem?_toArray, List.getElem?_cons_zero, List.getElem?_cons_succ, Sem.run_bind, run_underlying hte, run_underlying h2, Result.andThen, h3, Sem.run_pure, if_true, asInt, asIntOf]
              have hw0 : IntKind.i64.wrap ((0 : Nat) : Int) = 0 := by decide
              simp only [hw0]
              rw [if_neg (by omega)]
              simp only [typeInfo, Sem.run_bind, run_program, hi, Result.andThen, Sem.run_pure]
              rw [if_neg (by simp)]
              simp [Sem.run_bind, Result.andThen]
            refine wp_value (hrun _ _ hr) ?_
            obtain ⟨μ', h5, h6⟩ := hsr.add (d := o.dst) (al := al) (w' := w) (pv := .row al) (v := .slice none 0 0) (nb := some (.row T [])) (Keep.refl _ _) (fun _ _ => hfr)
              ⟨.slice none 0 0, fun x hx => by simp [blkOf] at hx, by unfold OR; rw [upd_same, upd_same]; exact .inl ⟨rfl, rfl⟩, .of_one (by simp only [CR, upd_same]; exact ⟨_, rfl, rfl, .inl rfl⟩) rfl rfl⟩
            exact hnext _ μ' _ _ (by have h7 := hk; simp only [List.replicate_zero] at h7; exact h7) h5 (h6 n ds hd hn hn')
          · obtain ⟨nc, rest, g1, g2, g3, g4⟩ := run_append_zeros (P := P) (w := w) (ty := o.type) hte h2 heT hT.1 hT.2 (m := q) (by omega) (by omega)
            obtain ⟨v, w', hr, hkp, hvr⟩ := QR.elems (μ := μ) (al := al) (ob := S.ob) (zero_elems (w := w) (A := av c S.ob μ) (T := T) hpos q) rfl (by simpa using g1) g2 g3 (t := e)
            simp only [Result.ok.injEq, Next.value.injEq] at hr
            obtain ⟨rfl, rfl⟩ := hr
            rw [List.length_replicate] at hvr
            refine wp_value (hrun _ _ g4) ?_
            obtain ⟨μ', h5, h6⟩ := hsr.add (d := o.dst) (al := al) (nb := some (.row T (List.replicate q T.dflt))) hkp (fun _ _ => hfr) hvr
            exact hnext _ μ' _ _ hk h5 (h6 n ds hd hn hn')
        · cases h
    · cases h
  · cases h

theorem rowSlice_sound (hE : EnvTy P E) (hsr : SR c S μ a w) {t : TypeId} {x : Operand} {lo hi mx : Option Operand} (hop : o.op = .slice t x lo hi mx) (h : evF E o S al K = some r) (hd : ∀ t, o.dst = some t → t ∈ ds) (hn : n ≤ al) (hn' : n ≤ S.objs.length)
    (hnext : ∀ S' μ' a' w', K S' = some r → SR c S' μ' a' w' → Ag n ds S μ S' μ' → next a' w') : o.wp P a w next Q := by
  simp only [evF, hop] at h
  have hv := hsr.slots.opd x
  split at h
  · rename_i ob hx
    rw [hx] at hv
    cases hvw : E.view with
    | true => rw [hvw] at h; exact quiet_step hE hsr h hd hn hn' hnext
    | false =>
    rw [hvw] at h
    simp only [cond_false] at h
    split at h
    · rename_i T zs U hob hU
      obtain ⟨e, hte, heT, hpos⟩ := elem_some hE hU
      obtain ⟨l, h, hl⟩ := boundK_some hsr.slots h
      obtain ⟨hh, h, hhh⟩ := boundK_some hsr.slots h
      obtain ⟨hc, hk⟩ := cond_some h
      simp only [Bool.and_eq_true, decide_eq_true_eq] at hc
      obtain ⟨hfr, hUT, h0, h1, h2⟩ := hc
      subst hUT
      have hfr := fresh_iff hfr
      have hal : (S.ob ob).alive = true := by rw [hob]; rfl
      have hm := hv.row hob
      have hor := hsr.objs.each ob
      simp only [OR, hob] at hor
      obtain ⟨i, hi', hsz, _⟩ := heT.info
      have h5 := run_sizeOf' (w := w) (n := U.cells) ⟨i, hi', hsz⟩
      have hlen : List.length (List.drop l.toNat (List.take hh.toNat zs)) = hh.toNat - l.toNat := by
        rw [List.length_drop, List.length_take]; omega
      have hrun : ∀ (a' : Option Addr) (cp : Nat), a.eval x = .slice a' zs.length cp → zs.length ≤ cp →
          (execOp a.eval o).run P w = .ok (.value (.slice (if cp = l.toNat then a' else a'.map (·.add (l.toNat * U.cells))) (hh.toNat - l.toNat) (cp - l.toNat))) w := fun a' cp ex hcap => by
        simp only [execOp, hop]
        refine run_val ?_
        rw [ex]
        simp only [Instr.sliceAt, Sem.run_bind, run_underlying hte, Result.andThen, Option.map_none]
        simp only [Instr.slice, Sem.run_bind, run_underlying hte, Result.andThen, run_sliceBounds hl hhh h0 h1 h2 hcap, h5, Sem.run_pure]
      rcases hor with ⟨hz0, hm'⟩ | ⟨b, off, cp, cells, tt, hm', hheap, hlc, hc63, hsize, hel⟩
      · rw [hm'] at hm
        obtain ⟨a3, e1⟩ : ∃ a', a.eval x = .slice a' zs.length 0 := by
          rw [hz0]; exact hm.elim (fun h => ⟨_, h.symm⟩) (fun h => h.2)
        refine wp_value (hrun a3 0 e1 (by omega)) ?_
        have el : l.toNat = 0 := by omega
        have eh : hh.toNat = 0 := by omega
        simp only [el, eh, if_true, Nat.sub_self]
        obtain ⟨μ', h6, h7⟩ := hsr.consume (o := ob) (al := al) (nb := .row U ((zs.take hh.toNat).drop l.toNat)) (mv := .slice none 0 0) (d := o.dst) (pv := .row al) hal hfr rfl (Keep.refl _ w)
          (fun x hx => by simp [blkOf] at hx) (by unfold OR; rw [upd_same, upd_same]; exact .inl ⟨by rw [hlen]; omega, rfl⟩) (v := .slice a3 0 0) (.of_one (by simp only [CR, upd_same]; exact ⟨_, rfl, rfl, .inr ⟨rfl, _, rfl⟩⟩) rfl rfl)
        exact hnext _ μ' _ _ hk h6 (h7 n ds hd hn hn')
      · rw [hm'] at hm
        have hm : Value.slice (some ⟨b, off, none⟩) (List.length zs) cp = a.eval x := hm.elim id (fun h => by cases h.1)
        refine wp_value (hrun _ cp hm.symm hlc) ?_
        have hbk : av c S.ob μ b := .inr ⟨ob, hal, by rw [hm']; rfl⟩
        let o2 := if cp = l.toNat then off else off + l.toNat * U.cells
        have ho2 : (if cp = l.toNat then some (⟨b, off, none⟩ : Addr) else (some (⟨b, off, none⟩ : Addr)).map (·.add (l.toNat * U.cells))) = some ⟨b, o2, none⟩ := by
          simp only [o2]
          split
          · rfl
          · simp [Addr.add_lit]
        rw [ho2]
        obtain ⟨μ', h6, h7⟩ := hsr.consume (o := ob) (al := al) (nb := .row U ((zs.take hh.toNat).drop l.toNat)) (mv := .slice (some ⟨b, o2, none⟩) (hh.toNat - l.toNat) (cp - l.toNat)) (d := o.dst) (pv := .row al) hal hfr rfl (Keep.refl _ w)
          (fun x hx => by simp only [blkOf, Option.some.injEq] at hx; subst hx; exact ⟨hsr.objs.old b hbk, .inl (by rw [hm']; rfl)⟩)
          (by
            unfold OR
            rw [upd_same, upd_same]
            have hmul : l.toNat * U.cells + (cp - l.toNat) * U.cells = cp * U.cells := by
              rw [← Nat.add_mul]; congr 1; omega
            refine .inr ⟨b, o2, cp - l.toNat, cells, tt, by rw [hlen], hheap, by rw [hlen]; omega, by omega, ?_, fun i y hy => ?_⟩
            · simp only [o2]
              split
              · have : cp - l.toNat = 0 := by omega
                rw [this]; omega
              · omega
            · obtain ⟨hy', hlt⟩ := drop_nth hy
              obtain ⟨cx, h8, h9⟩ := hel _ _ hy'
              refine ⟨cx, DR.keep (Keep.refl None w) (fun y _ hy => by
                rcases hy with hy | hy
                · exact hy
                · simp only [blkOf, Option.some.injEq] at hy; subst hy; exact hbk) (fun _ h => h.elim) U y cx h8, fun j v hj => ?_⟩
              have h10 := h9 j v hj
              rw [Nat.add_mul] at h10
              simp only [o2]
              rw [if_neg (by omega), show off + l.toNat * U.cells + i * U.cells + j = off + (l.toNat * U.cells + i * U.cells) + j from by omega]
              exact h10)
          (.of_one (by simp only [CR, upd_same]; exact ⟨_, rfl, rfl, .inl rfl⟩) rfl rfl)
        exact hnext _ μ' _ _ hk h6 (h7 n ds hd hn hn')
    · cases h
  · exact quiet_step hE hsr h hd hn hn' hnext
end
end Go.Vm

/- Vm, part 13b: a part of a row that is set to zero. Own work. -/
set_option linter.unusedVariables false
set_option linter.unusedSimpArgs false
set_option linter.unusedSectionVars false
namespace Go.Vm
variable [MonotC]
open Go.RowKit
section
variable {P : Program} {E : Env} {c : Cx} {S : St} {μ : Nat → Value} {a : Act} {w : World} {o : Oper} {al n : Nat} {ρ : Type} {r : ρ} {K : St → Option ρ} {ds : List Nat} {next : Act → World → Prop} {Q : Exit → Act → World → Prop}
theorem row_splice {A : Nat → Prop} {T : Ty} {xs ys : List T.den} {cs : Array Value} {off l : Nat} {zc : List Value} (hl : l + ys.length ≤ xs.length) (hsz : off + xs.length * T.cells ≤ cs.size)
    (hel : ∀ i x, nth (α := T.den) xs i = some x → ∃ cx, DR w A T x cx ∧ ∀ j v, cx[j]? = some v → cs[off + i * T.cells + j]? = some v) (hz : Elems w A T ys zc) :
    off + l * T.cells + zc.length ≤ cs.toList.length ∧ ∀ i x, nth (α := T.den) (xs.take l ++ (ys ++ xs.drop (l + ys.length))) i = some x → ∃ cx, DR w A T x cx ∧ ∀ j v, cx[j]? = some v → (splice cs.toList (off + l * T.cells) zc)[off + i * T.cells + j]? = some v := by
  have hzl : zc.length = ys.length * T.cells := hz.1
  have hsp : off + l * T.cells + zc.length ≤ cs.toList.length := by
    have : (l + ys.length) * T.cells ≤ xs.length * T.cells := Nat.mul_le_mul_right _ hl
    rw [Nat.add_mul] at this
    rw [hzl]
    have e : cs.toList.length = cs.size := by simp
    omega
  refine ⟨hsp, fun i x hx => ?_⟩
  have hout : ∀ y, nth (α := T.den) xs i = some y → (i < l ∨ l + ys.length ≤ i) → ∃ cx, DR w A T y cx ∧ ∀ j v, cx[j]? = some v → (splice cs.toList (off + l * T.cells) zc)[off + i * T.cells + j]? = some v := fun y hy hi => by
    obtain ⟨cx, h1, h2⟩ := hel i y hy
    refine ⟨cx, h1, fun j v hj => ?_⟩
    have hjl := (List.getElem?_eq_some_iff.1 hj).1
    rw [DR.len _ _ _ h1] at hjl
    rw [getElem?_splice hsp, if_neg ?_]
    · have := h2 j v hj
      simpa using this
    · rintro ⟨g1, g2⟩
      rcases hi with hi | hi
      · have : (i + 1) * T.cells ≤ l * T.cells := Nat.mul_le_mul_right _ hi
        rw [Nat.succ_mul] at this
        omega
      · have : (l + ys.length) * T.cells ≤ i * T.cells := Nat.mul_le_mul_right _ hi
        rw [Nat.add_mul] at this
        omega
  simp only [nth, List.getElem?_append, List.getElem?_take, List.length_take, List.getElem?_drop] at hx
  by_cases h1 : i < l
  · rw [if_pos (by omega), if_pos h1] at hx
    exact hout x hx (.inl h1)
  · rw [if_neg (by omega), show min l xs.length = l from by omega] at hx
    by_cases h2 : i - l < ys.length
    · rw [if_pos h2] at hx
      obtain ⟨cx, h3, h4⟩ := hz.2.2 _ x hx
      refine ⟨cx, h3, fun j v hj => ?_⟩
      have hjl := (List.getElem?_eq_some_iff.1 hj).1
      rw [DR.len _ _ _ h3] at hjl
      have e1 : i * T.cells = l * T.cells + (i - l) * T.cells := by rw [← Nat.add_mul]; congr 1; omega
      have e2 : (i - l + 1) * T.cells ≤ ys.length * T.cells := Nat.mul_le_mul_right _ h2
      rw [Nat.succ_mul] at e2
      rw [getElem?_splice hsp, if_pos ⟨by omega, by omega⟩, show off + i * T.cells + j - (off + l * T.cells) = (i - l) * T.cells + j from by omega]
      exact h4 j v hj
    · rw [if_neg h2, show l + ys.length + (i - l - ys.length) = i from by omega] at hx
      exact hout x hx (.inr (by omega))
theorem clear_sound (hE : EnvTy P E) (hsr : SR c S μ a w) {c0 : Call} (hop : o.op = .call c0) (hcal : c0.callee = .builtin .clear) (h : evF E o S al K = some r) (hd : ∀ t, o.dst = some t → t ∈ ds) (hn' : n ≤ S.objs.length)
    (hnext : ∀ S' μ' a' w', K S' = some r → SR c S' μ' a' w' → Ag n ds S μ S' μ' → next a' w') : o.wp P a w next Q := by
  simp only [evF, hop, hcal] at h
  split at h
  · rename_i s t ts hargs htys
    obtain ⟨y1, hy, rfl⟩ : ∃ y, c0.args.toList = [y] ∧ opd S y = s := by
      cases hc : c0.args.toList with
      | nil => rw [hc] at hargs; cases hargs
      | cons y l =>
        rw [hc] at hargs
        simp only [List.map_cons, List.cons.injEq, List.map_eq_nil_iff] at hargs
        exact ⟨y, by rw [hargs.2], hargs.1⟩
    have hA : c0.args = #[y1] := by simpa using congrArg List.toArray hy
    have hT : c0.argTypes[0]? = some t := by
      have : c0.argTypes = (t :: ts).toArray := by simpa using congrArg List.toArray htys
      rw [this]; simp
    have hv := hsr.slots.opd y1
    split at h
    · rename_i T hT1
      obtain ⟨e, hte, heT, hpos⟩ := elem_some hE hT1
      split at h
      · rename_i ob l hh hx
        rw [hx] at hv
        split at h
        · rename_i U zs hob
          obtain ⟨xs, hxs, hk⟩ := optK_some h
          obtain ⟨e0, hxs⟩ := castL_some hxs
          subst e0; subst hxs
          simp only at hk
          have hrun : ∀ (w' : World), (Builtin.clear_ c0.argTypes o.type #[a.eval y1]).run P w = .ok (.tuple #[]) w' → (execOp a.eval o).run P w = .ok (.value (.tuple #[])) w' := fun w' hr => by
            obtain ⟨cc, hcc⟩ := run_builtin (P := P) (a := a) (w := w) hop hcal
            rw [hcc]
            simp only [builtin]
            refine run_val ?_
            simpa [hA] using hr
          have hal : (S.ob ob).alive = true := by rw [hob]; rfl
          have hra0 := (hsr.objs.each ob).rowAt hob
          obtain ⟨_, ⟨g0, g1, g2⟩, _, hlen⟩ := hra0.sub (hv.subv hob)
          have hput : ∀ S1 w', SR c S1 μ a w' → Ag n [] S μ S1 μ → n ≤ S1.objs.length → VR w' (av c S1.ob μ) S1.ob μ (.tup []) (.tuple #[]) → K (S1.put o.dst (.tup [])) = some r → next (a.put o.dst (.tuple #[])) w' := fun S1 w' h1 h2 h3 h4 hk => by
            refine hnext _ μ _ _ hk ⟨by rw [put_defers]; exact h1.defers, ?_, by rw [put_ob]; exact h1.objs, h1.keep, by rw [put_ob]; exact h1.mine⟩ ?_
            · rw [put_ob]; exact Slots.put h1.slots rfl h4
            · exact h2.trans (ds' := ds) ⟨put_len _ _ _, fun t ht => put_slots _ _ _ _ (fun e => ht (hd t e)), by rw [put_objs]; exact h3, fun i _ => .inl (by rw [put_ob]), fun i hi => by rw [put_touched]; exact hi, fun i _ => by rw [put_ob]; exact Later.refl _ _ i⟩ (fun _ h => by cases h) (fun _ h => h)
          have htup : ∀ w' A' ob', VR w' A' ob' μ (.tup []) (.tuple #[]) := fun w' A' ob' => by
            refine .of_one ?_ rfl rfl
            simp only [CR, TRs]
            exact ⟨_, rfl, rfl⟩
          have hla : ∀ ys : List U.den, Later S.ob μ (upd S.ob ob (.row U ys)) μ ob := fun ys => by
            unfold Later; rw [upd_same]; exact ⟨⟨zs, hob⟩, rfl⟩
          obtain ⟨i, hi, hs, hzv, hby⟩ := heT.info
          by_cases hz : (hh - l).toNat = 0
          · have hsame : zs.take l.toNat ++ (List.replicate (hh - l).toNat U.dflt ++ zs.drop hh.toNat) = zs := by
              rw [hz, show hh.toNat = l.toNat from by omega]
              simp
            rw [hsame] at hk
            have hobs := ob_setOb S ob (.row U zs) hal
            have hu : upd S.ob ob (.row U zs) = S.ob := by
              funext x
              by_cases e : x = ob
              · subst e; rw [upd_same, hob]
              · rw [upd_other _ _ e]
            have hr : (Builtin.clear_ c0.argTypes o.type #[a.eval y1]).run P w = .ok (.tuple #[]) w := by
              rcases (hra0.sub (hv.subv hob)).1 with ⟨_, a3, ev⟩ | ⟨b, off, cp, cs, tt, ev, _⟩
              · rw [ev]
                cases a3 <;> simp [Builtin.clear_, hT, Sem.run_bind, run_underlying hte, Result.andThen]
              · rw [hlen, hz] at ev
                rw [ev]
                simp [Builtin.clear_, hT, Sem.run_bind, run_underlying hte, Result.andThen]
            refine wp_value (hrun _ hr) (hput _ _ ⟨hsr.defers, ?_, ?_, hsr.keep, ?_⟩ ?_ (by simpa [St.setOb] using hn') (htup _ _ _) hk)
            · rw [hobs, hu]; exact hsr.slots
            · rw [hobs, hu]; exact hsr.objs
            · rw [hobs, hu]; exact hsr.mine
            · refine ⟨rfl, fun _ _ => rfl, by simpa [St.setOb] using hn', fun i hi => ?_, fun i hi => by simp [St.setOb, hi], fun i hi => by rw [hobs, hu]; exact Later.refl _ _ i⟩
              exact .inl (by rw [hobs, hu])
          · rcases hv.subv hob with ⟨_, _, rfl, rfl⟩ | ⟨b, off, n0, cp, o2, hm, k0, k1, k2, ev, k3, k4⟩
            · exact absurd rfl hz
            rcases hra0 with ⟨_, _, e⟩ | ⟨b', off', cp', cs, tt, e, hheap, hlc, hc63, hsz, hel⟩
            · rw [hm] at e; simp only [Value.slice.injEq] at e; omega
            rw [hm] at e
            simp only [Value.slice.injEq, Option.some.injEq, Addr.mk.injEq] at e
            obtain ⟨⟨rfl, rfl, _⟩, rfl, rfl⟩ := e
            have hze := zero_elems (w := w) (A := av c S.ob μ) (T := U) hpos (hh - l).toNat
            have hlx : zs.length * U.cells ≤ cp * U.cells := Nat.mul_le_mul_right _ hlc
            obtain ⟨hsp, hnew⟩ := row_splice (l := l.toNat) (by rw [List.length_replicate]; omega) (by omega) hel hze
            rw [List.length_replicate, show l.toNat + (hh - l).toNat = hh.toNat from by omega] at hnew
            have ho2 : o2 = off + l.toNat * U.cells := k4 (by omega)
            subst ho2
            have hr : (Builtin.clear_ c0.argTypes o.type #[a.eval y1]).run P w = .ok (.tuple #[]) (w.setRow b (splice cs.toList (off + l.toNat * U.cells) (Builtin.zeroCells (zeroV U).toArray (hh - l).toNat).toList).toArray) := by
              rw [ev, show hh.toNat - l.toNat = (hh - l).toNat from by omega]
              have h3 := run_zeroValue' (w := w) ⟨i, hi, hzv⟩
              have hst := run_storeCells_at (P := P) b (off + l.toNat * U.cells) tt (Builtin.zeroCells (zeroV U).toArray (hh - l).toNat).toList 0 cs w hheap (by
                have e : cs.toList.length = cs.size := by simp
                omega) hze.2.1
              simp only [Nat.add_zero, splice_eq] at hst
              unfold Builtin.clear_
              simp only [hT, List.getElem?_toArray, List.getElem?_cons_zero, Sem.run_bind, run_underlying hte, Result.andThen]
              cases hnn : (hh - l).toNat with
              | zero => omega
              | succ m =>
                rw [hnn] at hst
                simp only [Sem.run_bind, h3, Result.andThen, wrapV_cells zeroV_leaf, hst, Sem.run_pure]
            have hbk : av c S.ob μ b := .inr ⟨ob, hal, by rw [hm]; rfl⟩
            have hkp : Keep (· = b) w (w.setRow b (splice cs.toList (off + l.toNat * U.cells) (Builtin.zeroCells (zeroV U).toArray (hh - l).toNat).toList).toArray) := Keep.setRow w b _
            have hll : (zs.take l.toNat ++ (List.replicate (hh - l).toNat U.dflt ++ zs.drop hh.toNat)).length = zs.length := by
              simp only [List.length_append, List.length_take, List.length_replicate, List.length_drop]; omega
            obtain ⟨h1, h2⟩ := hsr.write (o := ob) (b := b) (nb := .row U (zs.take l.toNat ++ (List.replicate (hh - l).toNat U.dflt ++ zs.drop hh.toNat))) hal (by rw [hm]; rfl) hkp (hla _) rfl (by
              unfold OR
              rw [upd_same]
              refine .inr ⟨b, off, cp, _, tt, by rw [hm, hll], setRow_at hheap, by rw [hll]; exact hlc, hc63, by simp only [List.size_toArray, splice_len hsp, Array.length_toList]; exact hsz, fun k u hk' => ?_⟩
              obtain ⟨cx, h6, h7⟩ := hnew k u hk'
              refine ⟨cx, DR.keep hkp (fun _ _ h => h) (fun x e => by subst e; exact hbk) U _ _ h6, fun j v hj => ?_⟩
              simp only [List.getElem?_toArray]
              exact h7 j v hj) (no_iter hsr hal (fun b e => by rw [hm] at e; cases e))
            exact wp_value (hrun _ hr) (hput _ _ h1 (h2 n [] hn') (by simpa [St.setOb] using hn') (htup _ _ _) hk)
        · cases h
      · cases h
    · cases h
  · cases h
/-! ### what is copied -/
theorem loadFrom_prefix {A : Addr} : ∀ (n i : Nat) (acc r : Array Value) (w' : World), (loadCellsFrom A i n acc).run P w = .ok r w' → w' = w ∧ ∀ m, m ≤ n → ∃ r', (loadCellsFrom A i m acc).run P w = .ok r' w ∧ r'.toList = r.toList.take (acc.size + m) ∧ r.size = acc.size + n
  | 0, i, acc, r, w', h => by
    simp only [loadCellsFrom, Sem.run_pure] at h
    cases h
    refine ⟨rfl, fun m hm => ⟨acc, ?_, ?_, by simp⟩⟩
    · rw [Nat.le_zero.1 hm]; simp [loadCellsFrom]
    · rw [Nat.le_zero.1 hm, Nat.add_zero, ← Array.length_toList, List.take_length]
  | n + 1, i, acc, r, w', h => by
    simp only [loadCellsFrom, Sem.run_bind] at h
    have hl : ∃ v, (load (A.add i)).run P w = .ok v w := by
      rw [run_load] at h ⊢
      cases hc : w.cell? (A.add i) with
      | some v => exact ⟨v, rfl⟩
      | none =>
        rw [hc] at h
        cases hf : w.farLoad P (A.add i) (Mode.plain == Mode.atomic) with
        | ok v => exact ⟨v.1, by simp [hf]⟩
        | error e => rw [hf] at h; simp [Result.andThen] at h
    obtain ⟨v, hl⟩ := hl
    rw [hl] at h
    simp only [Result.andThen] at h
    obtain ⟨e, ih⟩ := loadFrom_prefix n (i + 1) (acc.push v) r w' h
    refine ⟨e, fun m hm => ?_⟩
    cases m with
    | zero =>
      obtain ⟨r', h1, h2, h3⟩ := ih 0 (Nat.zero_le _)
      simp only [loadCellsFrom, Sem.run_pure] at h1
      cases h1
      refine ⟨acc, by simp [loadCellsFrom], ?_, by rw [h3, Array.size_push]; omega⟩
      have : acc.toList = (acc.push v).toList.take acc.size := by
        rw [Array.toList_push, ← Array.length_toList, List.take_left]
      rw [this, h2, List.take_take, Array.size_push]
      congr 1
      omega
    | succ m =>
      obtain ⟨r', h1, h2, h3⟩ := ih m (by omega)
      refine ⟨r', ?_, ?_, by rw [h3, Array.size_push]; omega⟩
      · simp only [loadCellsFrom, Sem.run_bind, hl, Result.andThen]
        exact h1
      · rw [h2, Array.size_push]
        congr 1
        omega
theorem first_prefix {size n : Nat} {z : Value} {cs : List Value} (hz : ∃ a0 n0 c0, z = .slice a0 n0 c0) (h : (Builtin.firstCells size n z).run P w = .ok cs.toArray w) (hn : cs.length = n * size) {m : Nat} (hm : m ≤ n) :
    (Builtin.firstCells size m z).run P w = .ok (cs.take (m * size)).toArray w := by
  obtain ⟨a0, n0, c0, rfl⟩ := hz
  cases a0 with
  | none =>
    simp only [Builtin.firstCells, Sem.run_pure] at h ⊢
    have : cs = [] := by
      injection h with h1
      simpa using congrArg Array.toList h1.symm
    rw [this]; simp
  | some A =>
    simp only [Builtin.firstCells, loadCells] at h ⊢
    obtain ⟨r', h1, h2, h3⟩ := (loadFrom_prefix (n * size) 0 #[] cs.toArray w h).2 (m * size) (Nat.mul_le_mul_right _ hm)
    rw [h1]
    congr 1
    have : r'.toList = cs.take (m * size) := by rw [h2]; simp
    rw [← this]
theorem Elems.take {A : Nat → Prop} {T : Ty} {ys : List T.den} {cs : List Value} (h : Elems w A T ys cs) (m : Nat) (hm : m ≤ ys.length) : Elems w A T (ys.take m) (cs.take (m * T.cells)) := by
  obtain ⟨h1, h2, h3⟩ := h
  have hle : m * T.cells ≤ ys.length * T.cells := Nat.mul_le_mul_right _ hm
  refine ⟨by rw [List.length_take, List.length_take, h1, Nat.min_eq_left hm, Nat.min_eq_left hle], fun v hv => h2 v (List.mem_of_mem_take hv), fun i x hx => ?_⟩
  simp only [nth, List.getElem?_take] at hx
  split at hx
  rotate_left
  · cases hx
  rename_i hi
  obtain ⟨cx, h4, h5⟩ := h3 i x hx
  refine ⟨cx, h4, fun j v hj => ?_⟩
  have hjl := (List.getElem?_eq_some_iff.1 hj).1
  rw [DR.len _ _ _ h4] at hjl
  have e2 : (i + 1) * T.cells ≤ m * T.cells := Nat.mul_le_mul_right _ hi
  rw [Nat.succ_mul] at e2
  rw [List.getElem?_take, if_pos (by omega)]
  exact h5 j v hj
theorem cpy_len {α : Type} {xs ys : List α} {l m : Nat} (h : l + m ≤ xs.length) : (cpy xs l m ys).length = xs.length := by
  unfold cpy
  simp only [List.length_append, List.length_take, List.length_drop]
  omega
theorem copy_core (hE : EnvTy P E) (hsr : SR c S μ a w) {c0 : Call} (hop : o.op = .call c0) (hcal : c0.callee = .builtin .copy) (hd : ∀ t, o.dst = some t → t ∈ ds) (hn' : n ≤ S.objs.length)
    (hnext : ∀ S' μ' a' w', K S' = some r → SR c S' μ' a' w' → Ag n ds S μ S' μ' → next a' w') {y1 y2 : Operand} (hA : c0.args = #[y1, y2]) {t : TypeId} (hT : c0.argTypes[0]? = some t) {U : Ty} (hT1 : E.elem t = some U)
    {ys : List U.den} (hx2 : asData S U (opd S y2) = some ys) {ob : Nat} {zs : List U.den} (hob : S.ob ob = .row U zs) {l m : Nat} (hlm : l + m ≤ zs.length)
    (hz : ∃ aa cp, a.eval y1 = .slice aa m cp ∧ (0 < m → ∃ b off c1, μ ob = .slice (some ⟨b, off, none⟩) zs.length c1 ∧ aa = some ⟨b, off + l * U.cells, none⟩))
    (hk : K ((S.setOb ob (.row U (cpy zs l m ys))).put o.dst (.int .i64 (min m ys.length : Nat))) = some r) : o.wp P a w next Q := by
  obtain ⟨e, hte, heT, hpos⟩ := elem_some hE hT1
  obtain ⟨a2, c2, cs2, hz2, hel2, hf2⟩ := asData_sound (P := P) hsr hx2 (hsr.slots.opd y2)
  have hf2 := hf2 w.drawn
  obtain ⟨aa, cp, hz1, hz3⟩ := hz
  have hrun : ∀ (w' : World) (v : Value), (Builtin.copy_ c0.argTypes o.type #[a.eval y1, a.eval y2]).run P w = .ok v w' → (execOp a.eval o).run P w = .ok (.value v) w' := fun w' v hr => by
    obtain ⟨cc, hcc⟩ := run_builtin (P := P) (a := a) (w := w) hop hcal
    rw [hcc]
    simp only [builtin]
    refine run_val ?_
    simpa [hA] using hr
  have hal : (S.ob ob).alive = true := by rw [hob]; rfl
  have hra0 := (hsr.objs.each ob).rowAt hob
  obtain ⟨i, hi, hs, hzv, hby⟩ := heT.info
  have hsize : (sizeOf e).run P w = .ok U.cells w := run_sizeOf' ⟨i, hi, hs⟩
  have hput : ∀ S1 w', SR c S1 μ a w' → Ag n [] S μ S1 μ → n ≤ S1.objs.length → K (S1.put o.dst (.int .i64 (min m ys.length : Nat))) = some r → next (a.put o.dst (.int .i64 (min m ys.length : Nat))) w' := fun S1 w' h1 h2 h3 hk => by
    refine hnext _ μ _ _ hk ⟨by rw [put_defers]; exact h1.defers, ?_, by rw [put_ob]; exact h1.objs, h1.keep, by rw [put_ob]; exact h1.mine⟩ ?_
    · rw [put_ob]; exact Slots.put h1.slots rfl (VR.mk_int _ _)
    · exact h2.trans (ds' := ds) ⟨put_len _ _ _, fun t ht => put_slots _ _ _ _ (fun e => ht (hd t e)), by rw [put_objs]; exact h3, fun i _ => .inl (by rw [put_ob]), fun i hi => by rw [put_touched]; exact hi, fun i _ => by rw [put_ob]; exact Later.refl _ _ i⟩ (fun _ h => by cases h) (fun _ h => h)
  have hla : ∀ ys : List U.den, Later S.ob μ (upd S.ob ob (.row U ys)) μ ob := fun ys => by
    unfold Later; rw [upd_same]; exact ⟨⟨zs, hob⟩, rfl⟩
  have hmin : Nat.min ys.length m = min m ys.length := Nat.min_comm _ _
  have hpre := first_prefix (P := P) (w := w) (m := min m ys.length) ⟨_, _, _, hz2⟩ hf2 hel2.1 (Nat.min_le_right _ _)
  have hr0 : ∀ w', (storeCells (aa.getD ⟨0, 0, none⟩) (cs2.take (min m ys.length * U.cells))).run P w = .ok () w' → aa ≠ none → (Builtin.copy_ c0.argTypes o.type #[a.eval y1, a.eval y2]).run P w = .ok (.int .i64 (min m ys.length : Nat)) w' := fun w' h1 h2 => by
    cases aa with
    | none => exact absurd rfl h2
    | some A =>
      simp only [Option.getD_some] at h1
      unfold Builtin.copy_
      rw [hz2] at hpre ⊢
      simp only [hT, hz1, List.getElem?_toArray, List.getElem?_cons_zero, List.getElem?_cons_succ, Sem.run_bind, run_underlying hte, Result.andThen, Builtin.lenOf, Sem.run_pure, hmin, hsize, hpre, h1]
      rfl
  by_cases hm : min m ys.length = 0
  · have hsame : cpy zs l m ys = zs := by
      unfold cpy
      have : ys.take m = [] := by
        apply List.length_eq_zero_iff.1
        rw [List.length_take]; exact hm
      rw [this]
      simp
    rw [hsame] at hk
    have hobs := ob_setOb S ob (.row U zs) hal
    have hu : upd S.ob ob (.row U zs) = S.ob := by
      funext x
      by_cases e : x = ob
      · subst e; rw [upd_same, hob]
      · rw [upd_other _ _ e]
    have hr : (Builtin.copy_ c0.argTypes o.type #[a.eval y1, a.eval y2]).run P w = .ok (.int .i64 (min m ys.length : Nat)) w := by
      cases haa : aa with
      | some A =>
        refine hr0 w ?_ (by rw [haa]; intro h; cases h)
        rw [hm, haa]
        simp [storeCells]
      | none =>
        unfold Builtin.copy_
        rw [hz2] at hpre ⊢
        simp only [hT, hz1, haa, List.getElem?_toArray, List.getElem?_cons_zero, List.getElem?_cons_succ, Sem.run_bind, run_underlying hte, Result.andThen, Builtin.lenOf, Sem.run_pure, hmin, hsize, hpre]
        rfl
    refine wp_value (hrun _ _ hr) (hput _ _ ⟨hsr.defers, ?_, ?_, hsr.keep, ?_⟩ ?_ (by simpa [St.setOb] using hn') hk)
    · rw [hobs, hu]; exact hsr.slots
    · rw [hobs, hu]; exact hsr.objs
    · rw [hobs, hu]; exact hsr.mine
    · refine ⟨rfl, fun _ _ => rfl, by simpa [St.setOb] using hn', fun i hi => ?_, fun i hi => by simp [St.setOb, hi], fun i hi => by rw [hobs, hu]; exact Later.refl _ _ i⟩
      exact .inl (by rw [hobs, hu])
  · obtain ⟨b, off, c1, hmu, haa⟩ := hz3 (by omega)
    rcases hra0 with ⟨_, _, e⟩ | ⟨b', off', cp', cs, tt, e, hheap, hlc, hc63, hsz, hel⟩
    · rw [hmu] at e; simp only [Value.slice.injEq] at e; omega
    rw [hmu] at e
    simp only [Value.slice.injEq, Option.some.injEq, Addr.mk.injEq] at e
    obtain ⟨⟨rfl, rfl, _⟩, _, rfl⟩ := e
    have hze : Elems w (av c S.ob μ) U (ys.take m) (cs2.take (min m ys.length * U.cells)) := by
      have := hel2.take (min m ys.length) (Nat.min_le_right _ _)
      have e : ys.take (min m ys.length) = ys.take m := by
        rw [← List.take_take, List.take_length]
      rw [e] at this
      exact this
    have hlx : zs.length * U.cells ≤ c1 * U.cells := Nat.mul_le_mul_right _ hlc
    obtain ⟨hsp, hnew⟩ := row_splice (l := l) (by rw [List.length_take]; omega) (by omega) hel hze
    have hr : (Builtin.copy_ c0.argTypes o.type #[a.eval y1, a.eval y2]).run P w = .ok (.int .i64 (min m ys.length : Nat)) (w.setRow b (splice cs.toList (off + l * U.cells) (cs2.take (min m ys.length * U.cells))).toArray) := by
      refine hr0 _ ?_ (by rw [haa]; intro h; cases h)
      have hst := run_storeCells_at (P := P) b (off + l * U.cells) tt (cs2.take (min m ys.length * U.cells)) 0 cs w hheap (by
        have e : cs.toList.length = cs.size := by simp
        omega) hze.2.1
      simp only [Nat.add_zero, splice_eq] at hst
      rw [haa]
      exact hst
    have hbk : av c S.ob μ b := .inr ⟨ob, hal, by rw [hmu]; rfl⟩
    have hkp : Keep (· = b) w (w.setRow b (splice cs.toList (off + l * U.cells) (cs2.take (min m ys.length * U.cells))).toArray) := Keep.setRow w b _
    have hll : (cpy zs l m ys).length = zs.length := cpy_len hlm
    obtain ⟨h1, h2⟩ := hsr.write (o := ob) (b := b) (nb := .row U (cpy zs l m ys)) hal (by rw [hmu]; rfl) hkp (hla _) rfl (by
      unfold OR
      rw [upd_same]
      refine .inr ⟨b, off, c1, _, tt, by rw [hmu, hll], setRow_at hheap, by rw [hll]; exact hlc, hc63, by simp only [List.size_toArray, splice_len hsp, Array.length_toList]; exact hsz, fun k u hk' => ?_⟩
      obtain ⟨cx, h6, h7⟩ := hnew k u hk'
      refine ⟨cx, DR.keep hkp (fun _ _ h => h) (fun x e => by subst e; exact hbk) U _ _ h6, fun j v hj => ?_⟩
      simp only [List.getElem?_toArray]
      exact h7 j v hj) (no_iter hsr hal (fun b e => by rw [hmu] at e; cases e))
    exact wp_value (hrun _ _ hr) (hput _ _ h1 (h2 n [] hn') (by simpa [St.setOb] using hn') hk)
theorem copy_sound (hE : EnvTy P E) (hsr : SR c S μ a w) {c0 : Call} (hop : o.op = .call c0) (hcal : c0.callee = .builtin .copy) (h : evF E o S al K = some r) (hd : ∀ t, o.dst = some t → t ∈ ds) (hn' : n ≤ S.objs.length)
    (hnext : ∀ S' μ' a' w', K S' = some r → SR c S' μ' a' w' → Ag n ds S μ S' μ' → next a' w') : o.wp P a w next Q := by
  simp only [evF, hop, hcal] at h
  split at h
  rotate_left
  · cases h
  rename_i s x t ts hargs htys
  obtain ⟨y1, y2, hy, rfl, rfl⟩ : ∃ y1 y2, c0.args.toList = [y1, y2] ∧ opd S y1 = s ∧ opd S y2 = x := by
    cases hc : c0.args.toList with
    | nil => rw [hc] at hargs; cases hargs
    | cons y l =>
      cases l with
      | nil => rw [hc] at hargs; cases hargs
      | cons y' l =>
        rw [hc] at hargs
        simp only [List.map_cons, List.cons.injEq, List.map_eq_nil_iff] at hargs
        exact ⟨y, y', by rw [hargs.2.2], hargs.1, hargs.2.1⟩
  have hA : c0.args = #[y1, y2] := by simpa using congrArg List.toArray hy
  have hT : c0.argTypes[0]? = some t := by
    have : c0.argTypes = (t :: ts).toArray := by simpa using congrArg List.toArray htys
    rw [this]; simp
  split at h
  rotate_left
  · cases h
  rename_i T hT1
  obtain ⟨ys, hys, h⟩ := optK_some h
  have hv := hsr.slots.opd y1
  split at h
  · rename_i ob l hh hx
    rw [hx] at hv
    split at h
    rotate_left
    · cases h
    rename_i U zs hob
    obtain ⟨xs, hxs, hk⟩ := optK_some h
    obtain ⟨_, hk⟩ := cond_some hk
    obtain ⟨e0, hxs⟩ := castL_some hxs
    subst e0; subst hxs
    have hra0 := (hsr.objs.each ob).rowAt hob
    obtain ⟨hsub, ⟨g0, g1, g2⟩, _, hlen⟩ := hra0.sub (hv.subv hob)
    refine copy_core hE hsr hop hcal hd hn' hnext hA hT hT1 hys hob (l := l.toNat) (m := (hh - l).toNat) (by omega) ?_ hk
    by_cases hz : (hh - l).toNat = 0
    · rcases hsub with ⟨_, a3, ev⟩ | ⟨b, off, cp, cs, tt, ev, _⟩
      · exact ⟨a3, 0, by rw [ev, hz], fun h => by omega⟩
      · rw [hlen] at ev
        exact ⟨_, _, ev, fun h => by omega⟩
    · rcases hv.subv hob with ⟨_, _, rfl, rfl⟩ | ⟨b, off, n0, cp, o2, hm, k0, k1, k2, ev, k3, k4⟩
      · exact absurd rfl hz
      rcases hra0 with ⟨_, _, e⟩ | ⟨b', off', cp', cs, tt, e, hheap, hlc, hc63, hsz, hel⟩
      · rw [hm] at e; simp only [Value.slice.injEq] at e; omega
      rw [hm] at e
      simp only [Value.slice.injEq, Option.some.injEq, Addr.mk.injEq] at e
      obtain ⟨⟨rfl, rfl, _⟩, rfl, rfl⟩ := e
      refine ⟨some ⟨b, o2, none⟩, cp - l.toNat, ?_, fun _ => ⟨b, off, cp, hm, by rw [k4 (by omega)]⟩⟩
      rw [ev, show hh.toNat - l.toNat = (hh - l).toNat from by omega]
  · rename_i ob hx
    rw [hx] at hv
    split at h
    rotate_left
    · cases h
    rename_i U zs hob
    obtain ⟨xs, hxs, hk⟩ := optK_some h
    obtain ⟨e0, hxs⟩ := castL_some hxs
    subst e0; subst hxs
    have hra0 := (hsr.objs.each ob).rowAt hob
    refine copy_core hE hsr hop hcal hd hn' hnext hA hT hT1 hys hob (l := 0) (m := zs.length) (by omega) ?_ hk
    have hhd := hv.row hob
    rcases hra0 with ⟨h0, a3, e⟩ | ⟨b', off', cp', cs, tt, e, hheap, hlc, hc63, hsz, hel⟩
    · rcases hhd with hhd | hhd
      · rw [← hhd, e, h0]; exact ⟨_, _, rfl, fun h => by omega⟩
      · obtain ⟨h1, a4, h2⟩ := hhd
        rw [h2, h0]; exact ⟨_, _, rfl, fun h => by omega⟩
    · rcases hhd with hhd | hhd
      · rw [← hhd, e]; exact ⟨_, _, rfl, fun _ => ⟨b', off', cp', rfl, by rw [Nat.zero_mul, Nat.add_zero]⟩⟩
      · obtain ⟨h1, a4, h2⟩ := hhd
        rw [e] at h1
        simp only [Value.slice.injEq] at h1
        have : zs.length = 0 := by first | exact h1.2.1 | omega
        rw [h2, this]
        exact ⟨_, _, rfl, fun h => by omega⟩
  · cases h
end
end Go.Vm

/- Vm, part 14: calls. Own work. -/
set_option linter.unusedVariables false
set_option linter.unusedSimpArgs false
set_option linter.unusedSectionVars false
namespace Go.Vm
variable [MonotC]
open Go.RowKit

def obs (l : List OB) : Nat → OB := fun o => l.getD o .dead
/-- object o there is object o' here -/
def Moved (ob : Nat → OB) (μ : Nat → Value) (ob' : Nat → OB) (μ' : Nat → Value) (o o' : Nat) : Prop :=
  match ob' o' with
  | .dead => True
  | .box d _ => (∃ v, ob o = .box d v) ∧ μ' o' = μ o
  | .row T _ => (∃ xs, ob o = .row T xs) ∧ μ' o' = μ o
  | .bytes _ => (∃ s, ob o = .bytes s) ∧ μ' o' = μ o
  | .map K V _ => (∃ c, ob o = .map K V c) ∧ μ' o' = μ o
  | .iter _ K V _ _ _ => (∃ m n l c, ob o = .iter m K V n l c) ∧ μ' o' = μ o
theorem Moved.alive {ob ob' : Nat → OB} {μ μ' : Nat → Value} {o o' : Nat} (h : Moved ob μ ob' μ' o o') (ha : (ob' o').alive = true) : (ob o).alive = true ∧ μ' o' = μ o := by
  unfold Moved at h
  cases h2 : ob' o' with
  | dead => rw [h2] at ha; cases ha
  | box d v => simp only [h2] at h; obtain ⟨⟨v', h1⟩, e⟩ := h; exact ⟨by rw [h1]; rfl, e⟩
  | row d v => simp only [h2] at h; obtain ⟨⟨v', h1⟩, e⟩ := h; exact ⟨by rw [h1]; rfl, e⟩
  | bytes v => simp only [h2] at h; obtain ⟨⟨v', h1⟩, e⟩ := h; exact ⟨by rw [h1]; rfl, e⟩
  | map T U v => simp only [h2] at h; obtain ⟨⟨v', h1⟩, e⟩ := h; exact ⟨by rw [h1]; rfl, e⟩
  | iter m T U n l c => simp only [h2] at h; obtain ⟨⟨m', n', l', c', h1⟩, e⟩ := h; exact ⟨by rw [h1]; rfl, e⟩
section
variable {w : World} {A A' : Nat → Prop} {ob ob' : Nat → OB} {μ μ' : Nat → Value} (f : Nat → Nat)
mutual
theorem CR.ren : ∀ (v : PV) (hl : ∀ o ∈ v.oids, Moved ob μ ob' μ' o (f o)) (cs : List Value), CR w A ob μ v cs → CR w A ob' μ' (v.ren f) cs
  | .any, _, _, h => by simpa only [CR, PV.ren] using h
  | .undef, _, _, h => by simpa only [CR, PV.ren] using h
  | .int _ _, _, _, h => by simpa only [CR, PV.ren] using h
  | .bool _, _, _, h => by simpa only [CR, PV.ren] using h
  | .str _, _, _, h => by simpa only [CR, PV.ren] using h
  | .sl T xs, _, cs, h => by simpa only [CR, PV.ren] using h
  | .nil, _, _, h => by simpa only [CR, PV.ren] using h
  | .nilc _, _, _, h => by simpa only [CR, PV.ren] using h
  | .row o, hl, cs, h => by
    simp only [CR, PV.ren] at h ⊢
    obtain ⟨v, e, ha, h⟩ := h
    refine ⟨v, e, ha, ?_⟩
    have := hl o (by simp [PV.oids])
    unfold Moved at this
    cases hb : ob' (f o) <;> simp only [hb] at this ⊢
    all_goals
      obtain ⟨⟨xs, hx⟩, hm⟩ := this
      simp only [hx] at h
      rw [hm]; exact h
  | .agg l, hl, cs, h => by simp only [CR, PV.ren] at h ⊢; exact CRs.ren l (fun o ho => hl o (by simpa [PV.oids] using ho)) cs h
  | .tup l, hl, cs, h => by
    simp only [CR, PV.ren] at h ⊢
    obtain ⟨vs, e, h⟩ := h
    exact ⟨vs, e, TRs.ren l (fun o ho => hl o (by simpa [PV.oids] using ho)) _ h⟩
  | .ptr o p, hl, cs, h => by
    simp only [CR, PV.ren] at h ⊢
    obtain ⟨v, e, ha, h⟩ := h
    refine ⟨v, e, ha, ?_⟩
    have := hl o (by simp [PV.oids])
    unfold Moved at this
    cases hb : ob' (f o) <;> simp only [hb] at this ⊢
    obtain ⟨⟨xs, hx⟩, hm⟩ := this
    simp only [hx] at h
    rw [hm]; exact h
  | .el T x, _, cs, h => by simpa only [CR, PV.ren] using h
  | .elo o i p, hl, cs, h => by
    simp only [CR, PV.ren] at h ⊢
    obtain ⟨v, e, ha, h⟩ := h
    refine ⟨v, e, ha, ?_⟩
    have := hl o (by simp [PV.oids])
    unfold Moved at this
    cases hb : ob' (f o) <;> simp only [hb] at this ⊢
    obtain ⟨⟨xs, hx⟩, hm⟩ := this
    simp only [hx] at h
    rw [hm]; exact h
  | .func g l, hl, cs, h => by
    simp only [CR, PV.ren] at h ⊢
    obtain ⟨vs, e, h⟩ := h
    exact ⟨vs, e, TRs.ren l (fun o ho => hl o (by simpa [PV.oids] using ho)) _ h⟩
  | .mp o, hl, cs, h => by
    simp only [CR, PV.ren] at h ⊢
    obtain ⟨v, e, ha, h⟩ := h
    refine ⟨v, e, ha, ?_⟩
    have := hl o (by simp [PV.oids])
    unfold Moved at this
    cases hb : ob' (f o) <;> simp only [hb] at this ⊢
    obtain ⟨⟨xs, hx⟩, hm⟩ := this
    simp only [hx] at h
    rw [hm]; exact h
  | .it o, hl, cs, h => by
    simp only [CR, PV.ren] at h ⊢
    obtain ⟨v, e, ha, h⟩ := h
    refine ⟨v, e, ha, ?_⟩
    have := hl o (by simp [PV.oids])
    unfold Moved at this
    cases hb : ob' (f o) <;> simp only [hb] at this ⊢
    obtain ⟨⟨m, n, l, c, hx⟩, hm⟩ := this
    simp only [hx] at h
    rw [hm]; exact h
  | .sub o lo hi, hl, cs, h => by
    simp only [CR, PV.ren] at h ⊢
    obtain ⟨v, e, ha, h⟩ := h
    refine ⟨v, e, ha, ?_⟩
    have := hl o (by simp [PV.oids])
    unfold Moved at this
    cases hb : ob' (f o) <;> simp only [hb] at this ⊢
    obtain ⟨⟨xs, hx⟩, hm⟩ := this
    simp only [hx] at h
    rw [hm]; exact h
theorem CRs.ren : ∀ (l : List PV) (hl : ∀ o ∈ PV.oidsL l, Moved ob μ ob' μ' o (f o)) (cs : List Value), CRs w A ob μ l cs → CRs w A ob' μ' (PV.renL f l) cs
  | [], _, _, h => by simpa only [CRs, PV.renL] using h
  | v :: l, hl, cs, h => by
    simp only [CRs, PV.renL] at h ⊢
    obtain ⟨c1, c2, e, h1, h2⟩ := h
    exact ⟨c1, c2, e, CR.ren v (fun o ho => hl o (by simp [PV.oidsL, ho])) c1 h1, CRs.ren l (fun o ho => hl o (by simp [PV.oidsL, ho])) c2 h2⟩
theorem TRs.ren : ∀ (l : List PV) (hl : ∀ o ∈ PV.oidsL l, Moved ob μ ob' μ' o (f o)) (vs : List Value), TRs w A ob μ l vs → TRs w A ob' μ' (PV.renL f l) vs
  | [], _, _, h => by simpa only [TRs, PV.renL] using h
  | v :: l, hl, vs, h => by
    simp only [TRs, PV.renL] at h ⊢
    obtain ⟨x, r, e, h1, h2⟩ := h
    refine ⟨x, r, e, ?_, TRs.ren l (fun o ho => hl o (by simp [PV.oidsL, ho])) r h2⟩
    have hag : (v.ren f).isAgg = v.isAgg := by cases v <;> simp [PV.ren, PV.isAgg]
    have han : (v.ren f).isAny = v.isAny := by cases v <;> simp [PV.ren, PV.isAny]
    rw [hag, han]
    exact h1.imp id (fun h => ⟨CR.ren v (fun o ho => hl o (by simp [PV.oidsL, ho])) _ h.1, h.2⟩)
end
theorem ren_isAgg (v : PV) : (v.ren f).isAgg = v.isAgg := by cases v <;> simp [PV.ren, PV.isAgg]
theorem ren_isAny (v : PV) : (v.ren f).isAny = v.isAny := by cases v <;> simp [PV.ren, PV.isAny]
theorem VR.ren {v : PV} (hl : ∀ o ∈ v.oids, Moved ob μ ob' μ' o (f o)) {x : Value} (h : VR w A ob μ v x) : VR w A ob' μ' (v.ren f) x := by
  unfold VR
  rw [ren_isAgg, ren_isAny]
  exact h.imp id (fun h => ⟨CR.ren f v hl _ h.1, h.2⟩)
mutual
theorem Ty.fits_ren : ∀ (T : Ty) (v : PV), T.fits v = true → T.fits (v.ren f) = true
  | .int _, v, h => by simp only [Ty.fits] at h ⊢; rwa [ren_isAgg]
  | .bool, v, h => by simp only [Ty.fits] at h ⊢; rwa [ren_isAgg]
  | .str, v, h => by simp only [Ty.fits] at h ⊢; rwa [ren_isAgg]
  | .slice _, v, h => by simp only [Ty.fits] at h ⊢; rwa [ren_isAgg]
  | .struct fs, .agg l, h => by simp only [Ty.fits, PV.ren] at h ⊢; exact Tys.fits_ren fs l h
theorem Tys.fits_ren : ∀ (T : Tys) (l : List PV), T.fits l = true → T.fits (PV.renL f l) = true
  | .nil, [], h => rfl
  | .cons t ts, v :: l, h => by
    simp only [Tys.fits, PV.renL, Bool.and_eq_true] at h ⊢
    exact ⟨Ty.fits_ren t v h.1, Tys.fits_ren ts l h.2⟩
end
mutual
theorem TD.fits_ren : ∀ (T : TD) (v : PV), T.fits v = true → T.fits (v.ren f) = true
  | .data T, v, h => by simp only [TD.fits] at h ⊢; exact Ty.fits_ren f T v h
  | .cell _, v, h => by simp only [TD.fits] at h ⊢; rwa [ren_isAgg]
  | .map _ _, v, h => by simp only [TD.fits] at h ⊢; rwa [ren_isAgg]
  | .agg fs, .agg l, h => by simp only [TD.fits, PV.ren] at h ⊢; exact TDs.fits_ren fs l h
theorem TDs.fits_ren : ∀ (T : TDs) (l : List PV), T.fits l = true → T.fits (PV.renL f l) = true
  | .nil, [], h => rfl
  | .cons t ts, v :: l, h => by
    simp only [TDs.fits, PV.renL, Bool.and_eq_true] at h ⊢
    exact ⟨TD.fits_ren t v h.1, TDs.fits_ren ts l h.2⟩
end
/-- an object, renamed -/
theorem OR.ren {o o' : Nat} (h : OR w A ob μ o) (hb : ob' o' = (ob o).ren f) (hm : μ' o' = μ o) (hl : ∀ x ∈ (ob o).oids, Moved ob μ ob' μ' x (f x)) : OR w A ob' μ' o' := by
  unfold OR at h ⊢
  rw [hb, hm]
  cases ho : ob o with
  | dead => trivial
  | box d v =>
    simp only [ho] at h
    simp only [OB.ren]
    obtain ⟨b, cs, t, e, hh, hf, hc, hhd⟩ := h
    exact ⟨b, cs, t, e, hh, TD.fits_ren f d v hf, CR.ren f v (fun x hx => hl x (by rw [ho]; exact hx)) _ hc, hhd⟩
  | row T xs =>
    simp only [ho] at h
    simpa only [OB.ren] using h
  | bytes s =>
    simp only [ho] at h
    simpa only [OB.ren] using h
  | map T U c =>
    simp only [ho] at h
    simpa only [OB.ren] using h
  | iter m T U n l c =>
    simp only [ho] at h
    simp only [OB.ren]
    obtain ⟨b, e, hlt, h3⟩ := h
    refine ⟨b, e, hlt, fun ha => ?_⟩
    obtain ⟨g1, g2⟩ := (hl m (by rw [ho]; simp [OB.oids])).alive ha
    rw [g2]
    exact h3 g1
mutual
theorem ren_ren {g : Nat → Nat} : ∀ (v : PV), (∀ x ∈ v.oids, g (f x) = x) → (v.ren f).ren g = v
  | .any, _ => rfl | .undef, _ => rfl | .int _ _, _ => rfl | .bool _, _ => rfl | .str _, _ => rfl | .sl _ _, _ => rfl | .nil, _ => rfl | .nilc _, _ => rfl | .el _ _, _ => rfl
  | .row o, h => by simp only [PV.ren]; rw [h o (by simp [PV.oids])]
  | .ptr o p, h => by simp only [PV.ren]; rw [h o (by simp [PV.oids])]
  | .elo o i p, h => by simp only [PV.ren]; rw [h o (by simp [PV.oids])]
  | .sub o a b, h => by simp only [PV.ren]; rw [h o (by simp [PV.oids])]
  | .mp o, h => by simp only [PV.ren]; rw [h o (by simp [PV.oids])]
  | .it o, h => by simp only [PV.ren]; rw [h o (by simp [PV.oids])]
  | .agg l, h => by simp only [PV.ren]; rw [renL_renL l (fun x hx => h x (by simpa [PV.oids] using hx))]
  | .tup l, h => by simp only [PV.ren]; rw [renL_renL l (fun x hx => h x (by simpa [PV.oids] using hx))]
  | .func q l, h => by simp only [PV.ren]; rw [renL_renL l (fun x hx => h x (by simpa [PV.oids] using hx))]
theorem renL_renL {g : Nat → Nat} : ∀ (l : List PV), (∀ x ∈ PV.oidsL l, g (f x) = x) → PV.renL g (PV.renL f l) = l
  | [], _ => rfl
  | v :: l, h => by
    simp only [PV.renL]
    rw [ren_ren v (fun x hx => h x (by simp [PV.oidsL, hx])), renL_renL l (fun x hx => h x (by simp [PV.oidsL, hx]))]
end
theorem OB.ren_ren {g : Nat → Nat} (b : OB) (h : ∀ x ∈ b.oids, g (f x) = x) : (b.ren f).ren g = b := by
  cases b with
  | box d v => simp only [OB.ren]; rw [Vm.ren_ren f v (fun x hx => h x (by simpa [OB.oids] using hx))]
  | iter m K V n l c => simp only [OB.ren]; rw [h m (by simp [OB.oids])]
  | _ => rfl
theorem alive_ren (b : OB) : (b.ren f).alive = b.alive := by cases b <;> rfl
theorem Ents.flat {K V : Ty} (hK : K.deep = false) (hV : V.deep = false) (hDR : ∀ (T : Ty) (x : T.den) (cs : List Value), T.deep = false → DR w A T x cs → DR w A' T x cs) : ∀ (l : List (K.den × V.den × Nat)) (m : List MapEntry), Ents w A K V l m → Ents w A' K V l m
  | [], m, h => by simpa only [Ents] using h
  | x :: l, m, h => by
    simp only [Ents] at h ⊢
    obtain ⟨e, r, h0, h1, h2, h3, h4, h5, h6⟩ := h
    exact ⟨e, r, h0, hDR _ _ _ hK h1, h2, hDR _ _ _ hV h3, h4, h5, Ents.flat hK hV hDR l r h6⟩
/-! ### Values that lead to no data -/
mutual
theorem DR.flat : ∀ (T : Ty) (x : T.den) (cs : List Value), T.deep = false → DR w A T x cs → DR w A' T x cs
  | .int _, _, _, _, h => by simpa only [DR] using h
  | .bool, _, _, _, h => by simpa only [DR] using h
  | .str, _, _, _, h => by simpa only [DR] using h
  | .slice _, _, _, hd, _ => by simp [Ty.deep] at hd
  | .struct fs, x, cs, hd, h => by simp only [DR] at h ⊢; exact DRs.flat fs x cs (by simpa only [Ty.deep] using hd) h
theorem DRs.flat : ∀ (T : Tys) (x : T.den) (cs : List Value), Ty.deep.go T = false → DRs w A T x cs → DRs w A' T x cs
  | .nil, _, _, _, h => by simpa only [DRs] using h
  | .cons t ts, x, cs, hd, h => by
    simp only [DRs] at h ⊢
    obtain ⟨c1, c2, e, h1, h2⟩ := h
    have hts : Ty.deep.go ts = false := by cases t <;> simp [Ty.deep.go] at hd <;> first | exact hd | exact hd.2
    have ht : t.deep = false := by cases t <;> simp [Ty.deep.go] at hd <;> simp [Ty.deep, hd]
    exact ⟨c1, c2, e, DR.flat t x.1 c1 ht h1, DRs.flat ts x.2 c2 hts h2⟩
end
mutual
theorem CR.flat : ∀ (v : PV) (cs : List Value), v.noSl = true → CR w A ob μ v cs → CR w A' ob μ v cs
  | .any, _, _, h => by simpa only [CR] using h
  | .undef, _, _, h => by simpa only [CR] using h
  | .int _ _, _, _, h => by simpa only [CR] using h
  | .bool _, _, _, h => by simpa only [CR] using h
  | .str _, _, _, h => by simpa only [CR] using h
  | .sl T xs, _, hn, _ => by simp [PV.noSl] at hn
  | .nil, _, _, h => by simpa only [CR] using h
  | .nilc _, _, _, h => by simpa only [CR] using h
  | .row o, cs, _, h => by simpa only [CR] using h
  | .agg l, cs, hn, h => by simp only [CR] at h ⊢; exact CRs.flat l cs (by simpa [PV.noSl] using hn) h
  | .tup l, cs, hn, h => by
    simp only [CR] at h ⊢
    obtain ⟨vs, e, h⟩ := h
    exact ⟨vs, e, TRs.flat l _ (by simpa [PV.noSl] using hn) h⟩
  | .ptr o p, cs, _, h => by simpa only [CR] using h
  | .el T x, _, hn, _ => by simp [PV.noSl] at hn
  | .elo o i p, cs, _, h => by simpa only [CR] using h
  | .func g l, cs, hn, h => by
    simp only [CR] at h ⊢
    obtain ⟨vs, e, h⟩ := h
    exact ⟨vs, e, TRs.flat l _ (by simpa [PV.noSl] using hn) h⟩
  | .mp o, cs, _, h => by simpa only [CR] using h
  | .it o, cs, _, h => by simpa only [CR] using h
  | .sub o lo hi, cs, _, h => by simpa only [CR] using h
theorem CRs.flat : ∀ (l : List PV) (cs : List Value), PV.noSlL l = true → CRs w A ob μ l cs → CRs w A' ob μ l cs
  | [], _, _, h => by simpa only [CRs] using h
  | v :: l, cs, hn, h => by
    simp only [PV.noSlL, Bool.and_eq_true] at hn
    simp only [CRs] at h ⊢
    obtain ⟨c1, c2, e, h1, h2⟩ := h
    exact ⟨c1, c2, e, CR.flat v c1 hn.1 h1, CRs.flat l c2 hn.2 h2⟩
theorem TRs.flat : ∀ (l : List PV) (vs : List Value), PV.noSlL l = true → TRs w A ob μ l vs → TRs w A' ob μ l vs
  | [], _, _, h => by simpa only [TRs] using h
  | v :: l, vs, hn, h => by
    simp only [PV.noSlL, Bool.and_eq_true] at hn
    simp only [TRs] at h ⊢
    obtain ⟨x, r, e, h1, h2⟩ := h
    exact ⟨x, r, e, h1.imp id (fun h => ⟨CR.flat v _ hn.1 h.1, h.2⟩), TRs.flat l r hn.2 h2⟩
end
theorem VR.flat {v : PV} {x : Value} (hn : v.noSl = true) (h : VR w A ob μ v x) : VR w A' ob μ v x := h.imp id fun h => ⟨CR.flat v _ hn h.1, h.2⟩
theorem OR.flat {o : Nat} (hn : (ob o).noSl = true) (h : OR w A ob μ o) : OR w A' ob μ o := by
  unfold OR at h ⊢
  cases ho : ob o with
  | dead => trivial
  | box d v =>
    rw [ho] at hn
    simp only [ho] at h ⊢
    obtain ⟨b, cs, t, e, hh, hf, hc, hhd⟩ := h
    exact ⟨b, cs, t, e, hh, hf, CR.flat v _ hn hc, hhd⟩
  | row T xs =>
    rw [ho] at hn
    simp only [ho] at h ⊢
    have hd : T.deep = false := by simpa [OB.noSl] using hn
    rcases h with h | ⟨b, off, c, cs, t, e, hh, h3, h4, h5, h6⟩
    · exact .inl h
    · refine .inr ⟨b, off, c, cs, t, e, hh, h3, h4, h5, fun i x hi => ?_⟩
      obtain ⟨cx, h7, h8⟩ := h6 i x hi
      exact ⟨cx, DR.flat T x cx hd h7, h8⟩
  | bytes s =>
    simp only [ho] at h ⊢
    exact h
  | map T U c =>
    rw [ho] at hn
    simp only [ho] at h ⊢
    obtain ⟨b, mes, h1, h2, h3, h4⟩ := h
    simp only [OB.noSl, Bool.and_eq_true, Bool.not_eq_true'] at hn
    exact ⟨b, mes, h1, h2, Ents.flat hn.1 hn.2 (fun T x cs hd h => DR.flat T x cs hd h) _ _ h3, h4⟩
  | iter m T U n l c =>
    rw [ho] at hn
    simp only [ho] at h ⊢
    obtain ⟨b, h1, h2, h3⟩ := h
    simp only [OB.noSl, Bool.and_eq_true, Bool.not_eq_true'] at hn
    refine ⟨b, h1, h2, fun ha => ?_⟩
    obtain ⟨bm, mes, g1, g2, g3, g4⟩ := h3 ha
    refine ⟨bm, mes, g1, g2, g3, fun kv hkv => ?_⟩
    obtain ⟨s, e, k1, k2, k3, k4, k5, k6⟩ := g4 kv hkv
    exact ⟨s, e, k1, k2, DR.flat _ _ _ hn.1 k3, k4, DR.flat _ _ _ hn.2 k5, k6⟩
end

/-! ### What is right of a function -/
def Enters (P : Program) (f : FuncId) : Prop := ∀ (args : Array Value) (w : World), (callFunc f args).run P w = .ok (.enter f args) w
structure CallPost (w w' : World) (A : Nat → Prop) (objs : List OB) (μ : Nat → Value) (objs' : List OB) (μ' : Nat → Value) (res : PV) (v : Value) : Prop where
  olen : objs.length ≤ objs'.length
  keep : Keep (own (obs objs) μ) w w'
  lie : Objs w' (fun b => A b ∨ own (obs objs') μ' b) (obs objs') μ'
  res : VR w' (fun b => A b ∨ own (obs objs') μ' b) (obs objs') μ' res v
  mine : ∀ b, own (obs objs') μ' b → own (obs objs) μ b ∨ w.heap.size ≤ b
  later : ∀ i, i < objs.length → Later (obs objs) μ (obs objs') μ' i
/-- A call does what is said of the function: for whatever follows. -/
def SoundF (P : Program) (f : FuncId) (sem : FSem) : Prop :=
  ∀ {ρ : Type} (args : List PV) (objs : List OB) (K : PV → List OB → Option ρ) (r : ρ), sem.run args objs K = some r → Enters P f ∧
    ∀ (w : World) (A : Nat → Prop) (μ : Nat → Value) (vals : List Value), Objs w A (obs objs) μ → TRs w A (obs objs) μ args vals →
      Calls P f vals.toArray w fun e w' => ∃ v res objs' μ', e = .returned v ∧ K res objs' = some r ∧ CallPost w w' A objs μ objs' μ' res v
def EnvOK (P : Program) (E : Env) : Prop := EnvTy P E ∧ ∀ f, SoundF P f (E.call f)
theorem SoundF.never (P : Program) (f : FuncId) : SoundF P f FSem.never := fun _ _ _ _ h => by cases h

section
variable {P : Program} {E : Env} {c : Cx} {S : St} {μ : Nat → Value} {a : Act} {w : World} {n : Nat} {ρ : Type} {r : ρ}
theorem oidsL_append (l m : List PV) : PV.oidsL (l ++ m) = PV.oidsL l ++ PV.oidsL m := by
  induction l with
  | nil => rfl
  | cons v l ih => simp [PV.oidsL, ih]
theorem prep_sound : ∀ (ms : List Mode) (args : List PV) (vals : List Value) {S : St} {μ : Nat → Value} {K : St → List PV → Option ρ}, prepArgs S ms args K = some r → SR c S μ a w → TRs w (av c S.ob μ) S.ob μ args vals →
    (∀ o ∈ PV.oidsL args, o ∈ PV.oidsL S.slots) → n ≤ S.objs.length →
    ∃ S1 μ1 args1, K S1 args1 = some r ∧ SR c S1 μ1 a w ∧ TRs w (av c S1.ob μ1) S1.ob μ1 args1 vals ∧ Ag n [] S μ S1 μ1 ∧ S1.slots = S.slots ∧ (∀ o, (o < S.objs.length ∨ o ∈ PV.oidsL S.slots) → Later S.ob μ S1.ob μ1 o) ∧ (∀ x, own S1.ob μ1 x → own S.ob μ x)
  | [], vs, vals, S, μ, K, h, hsr, hv, ho, hn => ⟨S, μ, vs, by simpa only [prepArgs] using h, hsr, hv, Ag.refl _ hn, rfl, fun o _ => Later.refl _ _ o, fun _ h => h⟩
  | _ :: _, [], vals, S, μ, K, h, hsr, hv, ho, hn => ⟨S, μ, [], by simpa only [prepArgs] using h, hsr, hv, Ag.refl _ hn, rfl, fun o _ => Later.refl _ _ o, fun _ h => h⟩
  | m :: ms, v :: vs, vals, S, μ, K, h, hsr, hv, ho, hn => by
    simp only [prepArgs] at h
    simp only [TRs] at hv
    obtain ⟨x, rest, rfl, hx, hrest⟩ := hv
    have hplain : ∀ (h : prepArgs S ms vs (fun S' l => K S' (v :: l)) = some r), ∃ S1 μ1 args1, K S1 args1 = some r ∧ SR c S1 μ1 a w ∧ TRs w (av c S1.ob μ1) S1.ob μ1 args1 (x :: rest) ∧ Ag n [] S μ S1 μ1 ∧ S1.slots = S.slots ∧ (∀ o, (o < S.objs.length ∨ o ∈ PV.oidsL S.slots) → Later S.ob μ S1.ob μ1 o) ∧ (∀ x, own S1.ob μ1 x → own S.ob μ x) := by
      intro h
      obtain ⟨S1, μ1, args1, h1, h2, h3, h4, h5, h6, h7⟩ := prep_sound ms vs rest h hsr hrest (fun o hoo => ho o (by simp [PV.oidsL, hoo])) hn
      refine ⟨S1, μ1, v :: args1, h1, h2, ?_, h4, h5, h6, h7⟩
      simp only [TRs]
      refine ⟨x, rest, rfl, ?_, h3⟩
      have : VR w (av c S.ob μ) S.ob μ v x := hx
      exact VR.later (Keep.refl None w) (fun b _ hb => hb.imp id (h7 b)) (fun _ h => h.elim) (fun o hoo => h6 o (.inr (ho o (by simp [PV.oidsL, hoo])))) this
    split at h
    · rename_i T
      obtain ⟨hf, h⟩ := cond_some h
      have hfr := fresh_iff hf
      have hx' : VR w (av c S.ob μ) S.ob μ .nil x := hx
      have hxe := hx'.nil
      subst hxe
      obtain ⟨μ', h1, h2, h3, h4, h5⟩ := hsr.add' (al := S.objs.length) (w' := w) (d := none) (pv := .row S.objs.length) (v := .slice none 0 0) (nb := some (.row T [])) (Keep.refl None w) (fun _ _ => hfr)
        ⟨.slice none 0 0, by simp [blkOf], by unfold OR; rw [upd_same]; exact .inl ⟨rfl, by rw [upd_same]⟩, by
          refine .of_one ?_ rfl rfl
          simp only [CR]
          exact ⟨_, rfl, rfl, by rw [upd_same, upd_same]; exact .inl rfl⟩⟩
      have hS : S.add S.objs.length none (.row S.objs.length) (some (.row T [])) = S.new S.objs.length (.row T []) := rfl
      rw [hS] at h1 h2 h3 h4 h5
      have hsl : ∀ o ∈ PV.oidsL S.slots, Later S.ob μ (S.new S.objs.length (.row T [])).ob μ' o := fun o hoo => h4 o (fun _ e => hfr.slots (e ▸ hoo))
      have hown : ∀ x, own (S.new S.objs.length (.row T [])).ob μ' x → own S.ob μ x := fun x hx => by
        rcases h5 x hx with h | ⟨h, _⟩
        · exact h
        · have := h1.objs.old x (.inr hx); omega
      have hlen : (S.new S.objs.length (.row T [])).objs.length = S.objs.length + 1 := by simp [St.new]
      obtain ⟨S1, μ1, args1, g1, g2, g3, g4, g5, g6, g7⟩ := prep_sound ms vs rest h h1 (by
          have : TRs w (av c S.ob μ) S.ob μ vs rest := hrest
          exact TRs.later (Keep.refl None w) (fun b _ hb => hb.imp id (hown b)) (fun _ h => h.elim) _ (fun o hoo => hsl o (ho o (by simp [PV.oidsL, hoo]))) _ this)
        (fun o hoo => ho o (by simp [PV.oidsL, hoo])) (by omega)
      refine ⟨S1, μ1, .row S.objs.length :: args1, g1, g2, ?_, h2 n [] (fun _ h => by cases h) hn hn |>.trans g4 (fun _ h => h) (fun _ h => h), g5, fun o hoo => ?_, fun x hx => hown x (g7 x hx)⟩
      · simp only [TRs]
        refine ⟨_, rest, rfl, ?_, g3⟩
        have h3' : VR w (av c (S.new S.objs.length (.row T [])).ob μ') (S.new S.objs.length (.row T [])).ob μ' (.row S.objs.length) (.slice none 0 0) := h3
        exact VR.later (Keep.refl None w) (fun b _ hb => hb.imp id (g7 b)) (fun _ h => h.elim) (fun o hoo => g6 o (.inl (by simp only [PV.oids, List.mem_singleton] at hoo; omega))) h3'
      · have k1 := g6 o (hoo.imp (fun h => by omega) (fun h => h))
        have k2 : Later S.ob μ (S.new S.objs.length (.row T [])).ob μ' o := h4 o (fun _ e => by
          rcases hoo with h | h
          · omega
          · exact hfr.slots (e ▸ h))
        exact k2.trans k1
    · exact hplain h
theorem rowAt_DR {A0 A : Nat → Prop} (hA : ∀ b, A b → A0 b) {T : Ty} {ys : List T.den} {v : Value} (h : RowAt w A0 T ys v) (hb : ∀ b, ys ≠ [] → blkOf v = some b → ¬ A b ∧ b < w.heap.size) : DR w A (.slice T) ys [v] := by
  rcases h with ⟨h0, a', rfl⟩ | ⟨b, off, c0, cs, tt, rfl, hheap, hlc, hlc2, _, hel⟩
  · have : ys = [] := List.length_eq_zero_iff.1 h0
    subst this
    simp only [DR]
    exact ⟨a', 0, rfl, ⟨Nat.le_refl _, Nat.zero_le _⟩, .inl rfl⟩
  · simp only [DR]
    by_cases hne : ys = []
    · exact ⟨_, c0, rfl, ⟨hlc, hlc2⟩, .inl hne⟩
    obtain ⟨h1, h2⟩ := hb b hne rfl
    refine ⟨_, c0, rfl, ⟨hlc, hlc2⟩, .inr ⟨b, off, rfl, h1, h2, fun i y hi => ?_⟩⟩
    obtain ⟨cx, h1, h2⟩ := hel i y hi
    refine ⟨cx, DR.keep (Keep.refl None w) (fun b _ hb => hA b hb) (fun _ h => h.elim) _ _ _ h1, fun j v hj => ?_⟩
    simp only [World.cell?, hheap]
    simpa using h2 j v hj
theorem rowAt_data {A0 A : Nat → Prop} (hA : ∀ b, A b → A0 b) {T : Ty} {ys : List T.den} {v : Value} (h : RowAt w A0 T ys v) (hb : ∀ b, ys ≠ [] → blkOf v = some b → ¬ A b ∧ b < w.heap.size) : VR w A S.ob μ (.sl T ys) v :=
  VR.mk_sl (rowAt_DR hA h hb)
theorem showData {A0 : Nat → Prop} (hO : Objs w A0 S.ob μ) {A : Nat → Prop} (hA : ∀ b, A b → A0 b) {T : Ty} {v : PV} {xs : List T.den} {x : Value} (h : asData S T v = some xs) (hv : VR w A0 S.ob μ v x)
    (hs : ∀ o, (v = .row o ∨ ∃ l h, v = .sub o l h) → ∀ b, blkOf (μ o) = some b → ¬ A b) : VR w A S.ob μ (.sl T xs) x := by
  unfold asData at h
  split at h
  · rename_i U ys
    obtain ⟨e, h⟩ := castL_some h
    subst e; subst h
    exact VR.mk_sl (DR.keep (Keep.refl None w) (fun b _ hb => hA b hb) (fun _ h => h.elim) _ _ _ hv.sl)
  · cases h
    rw [hv.nil]
    refine VR.mk_sl ?_
    simp only [DR]
    exact ⟨none, 0, rfl, ⟨Nat.le_refl _, Nat.zero_le _⟩, .inl rfl⟩
  · rename_i o
    split at h
    · rename_i U ys hob
      obtain ⟨e, h⟩ := castL_some h
      subst e; subst h
      have hm := hv.row hob
      have hra := (hO.each o).rowAt hob
      refine rowAt_data (A0 := A0) hA (v := x) (hra.head hm) fun b hne hb => ?_
      have hb : blkOf (μ o) = some b := hra.blk hm hne hb
      exact ⟨hs o (.inl rfl) b hb, hO.old _ (hO.mine _ ⟨o, by rw [hob]; rfl, hb⟩)⟩
    · cases h
  · rename_i o l hh
    split at h
    · rename_i U ys hob
      obtain ⟨e, h⟩ := castL_some h
      subst e; subst h
      obtain ⟨hra, _, hbk, _⟩ := ((hO.each o).rowAt hob).sub (hv.subv hob)
      refine rowAt_data (A0 := A0) hA (v := x) hra fun b hne hb => ?_
      have hb : blkOf (μ o) = some b := hbk.elim (fun h => h ▸ hb) (fun ⟨a3, h⟩ => by
        rcases hra with ⟨h0, _⟩ | ⟨_, _, _, _, _, h2, _, h3, _⟩
        · exact absurd (List.length_eq_zero_iff.1 h0) hne
        · rw [h] at h2; simp only [Value.slice.injEq] at h2; exact absurd (List.length_eq_zero_iff.1 h2.2.1.symm) hne)
      exact ⟨hs o (.inr ⟨_, _, rfl⟩) b hb, hO.old _ (hO.mine _ ⟨o, by rw [hob]; rfl, hb⟩)⟩
    · cases h
  · cases h
theorem showArgs_sound {A0 : Nat → Prop} (hO : Objs w A0 S.ob μ) {A : Nat → Prop} (hA : ∀ b, A b → A0 b) : ∀ (ms : List Mode) (args as : List PV) (vals : List Value), showArgs S ms args = some as → TRs w A0 S.ob μ args vals →
    (∀ o ∈ shownIn ms args, ∀ b, blkOf (μ o) = some b → ¬ A b) → TRs w A S.ob μ as vals
  | [], vs, as, vals, h, hv, _ => by
    simp only [showArgs, Option.some.injEq] at h
    subst h
    exact TRs.later (Keep.refl None w) (fun b _ hb => hA b hb) (fun _ h => h.elim) vs (fun o _ => Later.refl _ _ o) vals hv
  | m :: ms, [], as, vals, h, hv, _ => by
    have : as = [] := by cases m <;> simpa [showArgs] using h.symm
    subst this
    simpa only [TRs] using hv
  | m :: ms, v :: vs, as, vals, h, hv, hs => by
    simp only [TRs] at hv
    obtain ⟨x, rest, rfl, hx, hrest⟩ := hv
    have hx' : VR w A0 S.ob μ v x := hx
    have hk : VR w A S.ob μ v x := VR.later (Keep.refl None w) (fun b _ hb => hA b hb) (fun _ h => h.elim) (fun o _ => Later.refl _ _ o) hx'
    have hsub : ∀ o, o ∈ shownIn ms vs → o ∈ shownIn (m :: ms) (v :: vs) := fun o ho => by
      cases m <;> cases v <;> simp [shownIn, ho]
    cases m with
    | val =>
      simp only [showArgs] at h
      obtain ⟨l, h1, h2⟩ := Option.bind_eq_some_iff.1 h
      cases h2
      simp only [TRs]
      exact ⟨x, rest, rfl, hk, showArgs_sound hO hA ms vs l rest h1 hrest (fun o ho => hs o (hsub o ho))⟩
    | rw T =>
      simp only [showArgs] at h
      obtain ⟨l, h1, h2⟩ := Option.bind_eq_some_iff.1 h
      cases h2
      simp only [TRs]
      exact ⟨x, rest, rfl, hk, showArgs_sound hO hA ms vs l rest h1 hrest (fun o ho => hs o (hsub o ho))⟩
    | ro T =>
      simp only [showArgs] at h
      obtain ⟨xs, h0, h⟩ := Option.bind_eq_some_iff.1 h
      obtain ⟨l, h1, h2⟩ := Option.bind_eq_some_iff.1 h
      cases h2
      simp only [TRs]
      exact ⟨x, rest, rfl, showData hO hA h0 hx' (fun o e b hb => hs o (by rcases e with e | ⟨_, _, e⟩ <;> subst e <;> simp [shownIn]) b hb), showArgs_sound hO hA ms vs l rest h1 hrest (fun o ho => hs o (hsub o ho))⟩
/-! ### Numbers of objects -/
theorem mem_not {n : Nat} {l : List Nat} : mem n l = false ↔ n ∉ l := by rw [← Bool.not_eq_true, mem_iff]
theorem nodup_iff : ∀ {l : List Nat}, nodup l = true ↔ l.Nodup
  | [] => by simp [nodup]
  | n :: l => by simp [nodup, nodup_iff (l := l), mem_not]
theorem disj_iff : ∀ {l m : List Nat}, disj l m = true ↔ ∀ x ∈ l, x ∉ m
  | [], m => by simp [disj]
  | n :: l, m => by simp [disj, disj_iff (l := l), mem_not]
theorem within0_iff : ∀ {l m : List Nat}, within0 l m = true ↔ ∀ x ∈ l, x ∈ m
  | [], m => by simp [within0]
  | n :: l, m => by simp [within0, within0_iff (l := l), mem_iff]
theorem boundL_iff {n : Nat} : ∀ {l : List Nat}, boundL n l = true ↔ ∀ x ∈ l, x < n
  | [] => by simp [boundL]
  | m :: l => by simp [boundL, boundL_iff (l := l)]
theorem boundO_iff {n : Nat} : ∀ {l : List OB}, boundO n l = true ↔ ∀ b ∈ l, ∀ x ∈ b.oids, x < n
  | [] => by simp [boundO]
  | m :: l => by simp [boundO, boundO_iff (l := l), boundL_iff]
theorem allAlive_iff : ∀ {l : List Nat}, allAlive S l = true ↔ ∀ x ∈ l, (S.ob x).alive = true
  | [] => by simp [allAlive]
  | m :: l => by simp [allAlive, allAlive_iff (l := l)]
theorem closed_iff {acc : List Nat} : closed S acc = true ↔ ∀ o ∈ acc, ∀ x ∈ (S.ob o).oids, x ∈ acc := by
  unfold closed
  have : ∀ l, closed.go S acc l = true ↔ ∀ o ∈ l, ∀ x ∈ (S.ob o).oids, x ∈ acc := by
    intro l
    induction l with
    | nil => simp [closed.go]
    | cons o l ih => simp [closed.go, ih, mem_iff]
  exact this acc
theorem noSlAll_iff : ∀ {l : List OB}, noSlAll l = true ↔ ∀ b ∈ l, b.noSl = true
  | [] => by simp [noSlAll]
  | m :: l => by simp [noSlAll, noSlAll_iff (l := l)]
theorem ob_oids_mem {S : St} {o x : Nat} (h : x ∈ (S.ob o).oids) : ∃ b ∈ S.objs, x ∈ b.oids := by
  simp only [St.ob, List.getD] at h
  cases hx : S.objs[o]? with
  | none => simp [hx, OB.oids] at h
  | some b => simp only [hx, Option.getD_some] at h; exact ⟨b, List.mem_of_getElem? hx, h⟩
theorem alive_lt {S : St} {o : Nat} (h : (S.ob o).alive = true) : o < S.objs.length := by
  rcases Nat.lt_or_ge o S.objs.length with h1 | h1
  · exact h1
  · have : S.objs[o]? = none := by simp; omega
    simp [St.ob, List.getD, this, OB.alive] at h
theorem posOf_mem : ∀ {l : List Nat} {n : Nat}, n ∈ l → posOf n l < l.length ∧ l.getD (posOf n l) 0 = n
  | [], _, h => by cases h
  | m :: l, n, h => by
    simp only [posOf]
    by_cases e : n = m
    · subst e; simp
    · have : Nat.beq n m = false := by rw [← Bool.not_eq_true]; simpa using e
      rw [this]
      have := posOf_mem (l := l) (n := n) (by simpa [e] using h)
      simp only [cond_false, List.length_cons, List.getD_cons_succ]
      exact ⟨by omega, this.2⟩
theorem posOf_get : ∀ {l : List Nat} {i : Nat}, l.Nodup → i < l.length → posOf (l.getD i 0) l = i
  | [], _, _, h => by cases h
  | m :: l, 0, _, _ => by simp [posOf]
  | m :: l, i + 1, hn, h => by
    simp only [List.nodup_cons] at hn
    have h' : i < l.length := by simpa using h
    have hm : l.getD i 0 ∈ l := by simp only [List.getD, List.getElem?_eq_getElem h', Option.getD_some]; exact List.getElem_mem h'
    simp only [posOf, List.getD_cons_succ]
    have : Nat.beq (l.getD i 0) m = false := by rw [← Bool.not_eq_true]; intro e; exact hn.1 (by rw [← Nat.eq_of_beq_eq_true e]; exact hm)
    rw [this]
    rw [posOf_get hn.2 h']; rfl
theorem getD_mem {l : List Nat} {i : Nat} (h : i < l.length) : l.getD i 0 ∈ l := by
  simp only [List.getD, List.getElem?_eq_getElem h, Option.getD_some]; exact List.getElem_mem h
theorem writeBack_get (back : Nat → Nat) : ∀ (acc : List Nat) (l objs : List OB) (o : Nat), acc.Nodup → (∀ x ∈ acc, x < objs.length) → acc.length ≤ l.length →
    (writeBack back acc l objs).getD o .dead = if o ∈ acc then (l.getD (posOf o acc) .dead).ren back else if o < objs.length then objs.getD o .dead else (l.getD (acc.length + (o - objs.length)) .dead).ren back
  | [], l, objs, o, _, _, _ => by
    simp only [writeBack, List.not_mem_nil, if_false, List.length_nil, Nat.zero_add, List.getD, List.getElem?_append]
    split
    · rfl
    · simp only [List.getElem?_map]
      cases l[o - objs.length]? <;> simp [OB.ren]
  | a :: acc, [], objs, o, _, _, h => by simp at h
  | a :: acc, b :: bs, objs, o, hn, hb, h => by
    simp only [List.nodup_cons] at hn
    simp only [writeBack]
    rw [writeBack_get back acc bs _ o hn.2 (fun x hx => by simpa using hb x (by simp [hx])) (by simpa using h)]
    by_cases h1 : o ∈ acc
    · have e : o ≠ a := fun e => hn.1 (e ▸ h1)
      have : Nat.beq o a = false := by rw [← Bool.not_eq_true]; simpa using e
      simp [h1, posOf, this]
    · by_cases e : o = a
      · subst e
        have := hb o (by simp)
        simp [h1, posOf, this]
      · simp only [h1, if_false, List.mem_cons, e, or_self, List.length_set, List.length_cons]
        split
        · simp [List.getD, List.getElem?_set, Ne.symm e]
        · rw [show acc.length + 1 + (o - objs.length) = acc.length + (o - objs.length) + 1 from by omega, List.getD_cons_succ]
/-! ### The call itself -/
theorem obs_len {l : List OB} {i : Nat} (h : (obs l i).alive = true) : i < l.length := by
  rcases Nat.lt_or_ge i l.length with h1 | h1
  · exact h1
  · have : l[i]? = none := by simp; omega
    simp [obs, List.getD, this, OB.alive] at h
theorem noSl_obs {l : List OB} (h : noSlAll l = true) (i : Nat) : (obs l i).noSl = true := by
  simp only [obs, List.getD]
  cases hx : l[i]? with
  | none => rfl
  | some b => exact noSlAll_iff.1 h b (List.mem_of_getElem? hx)
theorem shown_alive : ∀ (ms : List Mode) (args as : List PV), showArgs S ms args = some as → ∀ o ∈ shownIn ms args, (S.ob o).alive = true
  | [], vs, as, h => by cases vs <;> simp [shownIn]
  | m :: ms, [], as, h => by cases m <;> simp [shownIn]
  | m :: ms, v :: vs, as, h => by
    cases m with
    | val =>
      simp only [showArgs] at h
      obtain ⟨l, h1, h2⟩ := Option.bind_eq_some_iff.1 h
      have := shown_alive ms vs l h1
      intro o ho
      exact this o (by cases v <;> simpa [shownIn] using ho)
    | rw T =>
      simp only [showArgs] at h
      obtain ⟨l, h1, h2⟩ := Option.bind_eq_some_iff.1 h
      have := shown_alive ms vs l h1
      intro o ho
      exact this o (by cases v <;> simpa [shownIn] using ho)
    | ro T =>
      simp only [showArgs] at h
      obtain ⟨xs, h0, h⟩ := Option.bind_eq_some_iff.1 h
      obtain ⟨l, h1, h2⟩ := Option.bind_eq_some_iff.1 h
      have := shown_alive ms vs l h1
      intro o ho
      by_cases e2 : ∃ o' l h, v = .sub o' l h
      · obtain ⟨o', l0, h0', rfl⟩ := e2
        simp only [shownIn, List.mem_cons] at ho
        rcases ho with rfl | ho
        · simp only [asData] at h0
          split at h0
          · rename_i hob; rw [hob]; rfl
          · cases h0
        · exact this o ho
      by_cases e : ∃ o', v = .row o'
      · obtain ⟨o', rfl⟩ := e
        simp only [shownIn, List.mem_cons] at ho
        rcases ho with rfl | ho
        · simp only [asData] at h0
          split at h0
          · rename_i hob; rw [hob]; rfl
          · cases h0
        · exact this o ho
      · exact this o (by cases v <;> first | (exact absurd ⟨_, rfl⟩ e) | (exact absurd ⟨_, _, _, rfl⟩ e2) | simpa [shownIn] using ho)
theorem noIters_iff {objs : List OB} : ∀ {l : List Nat}, noIters l objs = true ↔ ∀ m ∈ l, ∀ b ∈ objs, ∀ m' K V n s c, b = .iter m' K V n s c → m' ≠ m
  | [] => by simp [noIters]
  | m :: l => by simp only [noIters, Bool.and_eq_true, noIter_iff, noIters_iff (l := l), List.mem_cons, forall_eq_or_imp]
theorem SR.kill (h : SR c S μ a w) {o : Nat} (ha : (S.ob o).alive = true) : SR c (S.setOb o .dead) μ a w := by
  have hob := ob_setOb S o .dead ha
  have hown : ∀ x, own (upd S.ob o .dead) μ x → own S.ob μ x := by
    rintro x ⟨o', h1, h2⟩
    by_cases e : o' = o
    · subst e; rw [upd_same] at h1; cases h1
    · rw [upd_other _ _ e] at h1; exact ⟨o', h1, h2⟩
  have hav : ∀ x, av c (upd S.ob o .dead) μ x → av c S.ob μ x := fun x hx => hx.imp id (hown x)
  have hlat : ∀ x, Later S.ob μ (upd S.ob o .dead) μ x := fun x => by
    unfold Later
    by_cases e : x = o
    · subst e; rw [upd_same]; trivial
    · rw [upd_other _ _ e]
      cases hx : S.ob x <;> simp
  refine ⟨h.defers, ?_, ?_, h.keep, ?_⟩
  · rw [hob]
    exact h.slots.later (Keep.refl None w) (fun x _ hx => hav x hx) (fun _ h => h.elim) (fun x _ => hlat x)
  · rw [hob]
    refine ⟨fun x => ?_, fun o1 o2 x h1 h2 h3 h4 => ?_, fun x hx => .inr hx, fun x hx => h.objs.old x (hav x hx), fun p hp => ⟨(h.objs.lay p hp).1, fun a => (h.objs.lay p hp).2 (hav _ a)⟩⟩
    · refine (h.objs.each x).later (Keep.refl None w) (fun y _ hy => hav y hy) (fun _ h => h.elim) ?_ (fun _ => rfl) (fun y h1 h2 => ⟨fun h => h.elim, own_lt h ⟨x, h1, h2⟩⟩) (fun y _ => hlat y)
      by_cases e : x = o
      · subst e; exact .inr (upd_same _ _ _)
      · exact .inl (upd_other _ _ e)
    · have k : ∀ o', ((upd S.ob o .dead) o').alive = true → (S.ob o').alive = true := fun o' h => by
        by_cases e : o' = o
        · subst e; rw [upd_same] at h; cases h
        · rwa [upd_other _ _ e] at h
      exact h.objs.apart o1 o2 x (k o1 h1) (k o2 h2) h3 h4
  · rw [hob]; exact fun x hx => h.mine x (hown x hx)
/-- the function as its callers see it: from the state to the state -/
theorem call_sound {f : Nat} (hF : SoundF P f (E.call f)) {args : List PV} {vals : List Value} {K : St → PV → Option ρ} (h : evCall E f args S K = some r) (hsr : SR c S μ a w) (hv : TRs w (av c S.ob μ) S.ob μ args vals)
    (ho : ∀ o ∈ PV.oidsL args, o ∈ PV.oidsL S.slots) (hn : n ≤ S.objs.length) :
    Enters P f ∧ Calls P f vals.toArray w fun e w' => ∃ v pv S' μ', e = .returned v ∧ K S' pv = some r ∧ SR c S' μ' a w' ∧ VR w' (av c S'.ob μ') S'.ob μ' pv v ∧ Ag n [] S μ S' μ' := by
  obtain ⟨S1, μ1, args1, h, hsr1, hv1, hag1, hslots, hlat1, _⟩ := prep_sound (n := n) _ _ _ h hsr hv ho hn
  obtain ⟨as, has, h⟩ := optK_some h
  obtain ⟨hc, h⟩ := cond_some h
  simp only [Bool.and_eq_true] at hc
  obtain ⟨⟨hal, hnd, hcl, hwi, hdj⟩, hnoi⟩ := hc
  rw [allAlive_iff] at hal
  rw [nodup_iff] at hnd
  rw [closed_iff] at hcl
  rw [within0_iff] at hwi
  rw [disj_iff] at hdj
  generalize hacc : reach S1 1000 (PV.oidsL as) [] = acc at *
  generalize hobs : (acc.map fun o => (S1.ob o).ren (posOf · acc)) = objs at *
  have holen : objs.length = acc.length := by subst hobs; simp
  have hobsi : ∀ i, i < acc.length → obs objs i = (S1.ob (acc.getD i 0)).ren (posOf · acc) := by
    intro i hi
    subst hobs
    simp [obs, List.getD, List.getElem?_map, List.getElem?_eq_getElem hi]
  let μc : Nat → Value := fun i => μ1 (acc.getD i 0)
  let A : Nat → Prop := fun b => av c S1.ob μ1 b ∧ ∀ o ∈ shownIn (E.call f).modes args1, blkOf (μ1 o) ≠ some b
  have hAav : ∀ b, A b → av c S1.ob μ1 b := fun b h => h.1
  have hmoved : ∀ o ∈ acc, Moved S1.ob μ1 (obs objs) μc o (posOf o acc) := by
    intro o hoa
    obtain ⟨h1, h2⟩ := posOf_mem hoa
    unfold Moved
    rw [hobsi _ h1, h2]
    cases hb : S1.ob o with
    | dead => trivial
    | box d v => exact ⟨⟨v, rfl⟩, by show μ1 (acc.getD _ 0) = _; rw [h2]⟩
    | row T xs => exact ⟨⟨xs, rfl⟩, by show μ1 (acc.getD _ 0) = _; rw [h2]⟩
    | bytes xs => exact ⟨⟨xs, rfl⟩, by show μ1 (acc.getD _ 0) = _; rw [h2]⟩
    | map T U xs => exact ⟨⟨xs, rfl⟩, by show μ1 (acc.getD _ 0) = _; rw [h2]⟩
    | iter m T U n l xs => exact ⟨⟨m, n, l, xs, rfl⟩, by show μ1 (acc.getD _ 0) = _; rw [h2]⟩
  have hargs : TRs w A (obs objs) μc (PV.renL (posOf · acc) as) vals :=
    TRs.ren _ as (fun o hoo => hmoved o (hwi o hoo)) _ (showArgs_sound hsr1.objs hAav _ _ _ _ has hv1 (fun o hoo b hb hA => hA.2 o hoo hb))
  have hownc : ∀ b, own (obs objs) μc b → ∃ o ∈ acc, (S1.ob o).alive = true ∧ blkOf (μ1 o) = some b := by
    rintro b ⟨i, h1, h2⟩
    have hi := obs_len h1
    rw [holen] at hi
    exact ⟨acc.getD i 0, getD_mem hi, hal _ (getD_mem hi), h2⟩
  have hlie : Objs w A (obs objs) μc := by
    refine ⟨fun i => ?_, fun i j b h1 h2 h3 h4 => ?_, fun b hb => ?_, fun b hb => hsr1.objs.old b hb.1, fun p hp => ⟨(hsr1.objs.lay p hp).1, fun a => (hsr1.objs.lay p hp).2 (hAav _ a)⟩⟩
    · rcases Nat.lt_or_ge i acc.length with hi | hi
      · have hm := getD_mem hi
        have h1 : OR w (av c S1.ob μ1) (obs objs) μc i := OR.ren (posOf · acc) (hsr1.objs.each (acc.getD i 0)) (hobsi i hi) rfl (fun x hx => hmoved x (hcl _ hm x hx))
        exact h1.later (Keep.refl None w) (fun b _ hb => hAav b hb) (fun _ h => h.elim) (.inl rfl) (fun _ => rfl)
          (fun b _ hb => ⟨fun h => h.elim, own_lt hsr1 ⟨acc.getD i 0, hal _ hm, hb⟩⟩) (fun x _ => Later.refl _ _ x)
      · unfold OR
        have : obs objs i = .dead := by
          have : objs[i]? = none := by simp; omega
          simp [obs, List.getD, this]
        rw [this]; trivial
    · have hi := obs_len h1
      have hj := obs_len h2
      rw [holen] at hi hj
      have := hsr1.objs.apart _ _ b (hal _ (getD_mem hi)) (hal _ (getD_mem hj)) h3 h4
      rw [← posOf_get hnd hi, ← posOf_get hnd hj, this]
    · obtain ⟨o, h1, h2, h3⟩ := hownc b hb
      refine ⟨.inr ⟨o, h2, h3⟩, fun o' h4 h5 => hdj o' h4 ?_⟩
      rw [hsr1.objs.apart o' o b (shown_alive _ _ _ has o' h4) h2 h5 h3]
      exact h1
  rw [(E.call f).param] at h
  split at h
  rotate_left
  · cases h
  rename_i p hrun
  obtain ⟨hen, hcalls⟩ := hF _ _ _ _ hrun
  refine ⟨hen, (hcalls w A μc vals hlie hargs).mono ?_⟩
  rintro e w' ⟨v, res, objs', μ', rfl, hk0, hp⟩
  have hro := fun hr : (E.call f).ro = true => (E.call f).roOK hr _ _ _ hrun
  cases hk0
  have hk := h
  obtain ⟨hc, hk⟩ := cond_some hk
  simp only [Bool.and_eq_true, Bool.or_eq_true] at hc
  obtain ⟨hsl, huns⟩ := hc
  simp only [unseen, Bool.and_eq_true] at huns
  rw [boundL_iff, boundO_iff] at huns
  generalize hback : (fun i => cond (Nat.blt i acc.length) (acc.getD i 0) (S1.objs.length + (i - acc.length)) : Nat → Nat) = back at hk
  have hback1 : ∀ i, i < acc.length → back i = acc.getD i 0 := fun i hi => by
    subst hback
    have : Nat.blt i acc.length = true := by simpa using hi
    simp only [this, cond_true]
  have hback2 : ∀ i, acc.length ≤ i → back i = S1.objs.length + (i - acc.length) := fun i hi => by
    subst hback
    have : Nat.blt i acc.length = false := by rw [← Bool.not_eq_true]; simp; omega
    simp only [this, cond_false]
  have hlt : ∀ x ∈ acc, x < S1.objs.length := fun x hx => alive_lt (hal x hx)
  have hol := hp.olen
  rw [holen] at hol
  generalize hS2 : ({ S1 with objs := writeBack back acc objs' S1.objs, touched := cond (E.call f).ro S1.touched (acc ++ S1.touched) } : St) = S2 at hk
  have hob2 : ∀ o, S2.ob o = if o ∈ acc then (obs objs' (posOf o acc)).ren back else if o < S1.objs.length then S1.ob o else (obs objs' (acc.length + (o - S1.objs.length))).ren back := by
    intro o
    subst hS2
    exact writeBack_get back acc objs' S1.objs o hnd hlt hol
  let μ2 : Nat → Value := fun o => if o ∈ acc then μ' (posOf o acc) else if o < S1.objs.length then μ1 o else μ' (acc.length + (o - S1.objs.length))
  have hob2b : ∀ i, S2.ob (back i) = (obs objs' i).ren back ∧ μ2 (back i) = μ' i := by
    intro i
    rcases Nat.lt_or_ge i acc.length with hi | hi
    · have hm := getD_mem hi
      rw [hback1 i hi, hob2, if_pos hm, posOf_get hnd hi]
      exact ⟨rfl, by show (if _ then _ else _) = _; rw [if_pos hm, posOf_get hnd hi]⟩
    · rw [hback2 i hi, hob2]
      have h1 : ¬ (S1.objs.length + (i - acc.length)) ∈ acc := fun h => by have := hlt _ h; omega
      have h2 : ¬ (S1.objs.length + (i - acc.length) < S1.objs.length) := by omega
      rw [if_neg h1, if_neg h2, show acc.length + (S1.objs.length + (i - acc.length) - S1.objs.length) = i from by omega]
      refine ⟨rfl, ?_⟩
      show (if _ then _ else if _ then _ else _) = _
      rw [if_neg h1, if_neg h2, show acc.length + (S1.objs.length + (i - acc.length) - S1.objs.length) = i from by omega]
  have hother : ∀ o, o ∉ acc → o < S1.objs.length → S2.ob o = S1.ob o ∧ μ2 o = μ1 o := fun o h1 h2 => by
    rw [hob2, if_neg h1, if_pos h2]
    refine ⟨rfl, ?_⟩
    show (if _ then _ else if _ then _ else _) = _
    rw [if_neg h1, if_pos h2]
  have hwhere : ∀ o, (o ∉ acc ∧ o < S1.objs.length) ∨ ∃ i, back i = o ∧ (i < acc.length ↔ o ∈ acc) := fun o => by
    by_cases h1 : o ∈ acc
    · obtain ⟨h2, h3⟩ := posOf_mem h1
      exact .inr ⟨posOf o acc, by rw [hback1 _ h2, h3], by simp [h1, h2]⟩
    · rcases Nat.lt_or_ge o S1.objs.length with h2 | h2
      · exact .inl ⟨h1, h2⟩
      · exact .inr ⟨acc.length + (o - S1.objs.length), by rw [hback2 _ (by omega)]; omega, by simp [h1]⟩
  have hlater : ∀ o, o < S1.objs.length → Later S1.ob μ1 S2.ob μ2 o := by
    intro o hlo
    by_cases h1 : o ∈ acc
    · obtain ⟨h2, h3⟩ := posOf_mem h1
      have := hp.later (posOf o acc) (by omega)
      obtain ⟨h4, h5⟩ := hob2b (posOf o acc)
      rw [hback1 _ h2, h3] at h4 h5
      unfold Later at this ⊢
      rw [h4, h5]
      rw [hobsi _ h2, h3] at this
      have hμ : μc (posOf o acc) = μ1 o := by show μ1 (acc.getD _ 0) = _; rw [h3]
      rw [hμ] at this
      cases hx : obs objs' (posOf o acc) with
      | dead => trivial
      | box d v =>
        simp only [hx, OB.ren] at this ⊢
        obtain ⟨⟨v', h6⟩, h7⟩ := this
        refine ⟨?_, h7⟩
        cases hy : S1.ob o <;> rw [hy] at h6 <;> simp [OB.ren] at h6
        obtain ⟨rfl, _⟩ := h6
        exact ⟨_, rfl⟩
      | row T xs =>
        simp only [hx, OB.ren] at this ⊢
        obtain ⟨⟨v', h6⟩, h7⟩ := this
        refine ⟨?_, h7⟩
        cases hy : S1.ob o <;> rw [hy] at h6 <;> simp [OB.ren] at h6
        obtain ⟨rfl, _⟩ := h6
        exact ⟨_, rfl⟩
      | bytes xs =>
        simp only [hx, OB.ren] at this ⊢
        obtain ⟨⟨v', h6⟩, h7⟩ := this
        refine ⟨?_, h7⟩
        cases hy : S1.ob o <;> rw [hy] at h6 <;> simp [OB.ren] at h6
        exact ⟨_, rfl⟩
      | map T U xs =>
        simp only [hx, OB.ren] at this ⊢
        obtain ⟨⟨v', h6⟩, h7⟩ := this
        refine ⟨?_, h7⟩
        cases hy : S1.ob o <;> rw [hy] at h6 <;> simp [OB.ren] at h6
        obtain ⟨rfl, rfl, _⟩ := h6
        exact ⟨_, rfl⟩
      | iter m T U n l xs =>
        simp only [hx, OB.ren] at this ⊢
        obtain ⟨⟨m', n', l', v', h6⟩, h7⟩ := this
        refine ⟨?_, h7⟩
        cases hy : S1.ob o <;> rw [hy] at h6 <;> simp [OB.ren] at h6
        obtain ⟨_, rfl, rfl, _⟩ := h6
        exact ⟨_, _, _, _, rfl⟩
    · obtain ⟨h2, h3⟩ := hother o h1 hlo
      unfold Later
      rw [h2, h3]
      cases S1.ob o <;> simp
  have hownS1 : ∀ b, own (obs objs) μc b → own S1.ob μ1 b := fun b hb => by
    obtain ⟨o, _, h2, h3⟩ := hownc b hb
    exact ⟨o, h2, h3⟩
  have hown2 : ∀ b, own S2.ob μ2 b → (∃ o, o ∉ acc ∧ (S1.ob o).alive = true ∧ blkOf (μ1 o) = some b) ∨ own (obs objs') μ' b := by
    rintro b ⟨o, h1, h2⟩
    rcases hwhere o with ⟨h3, h4⟩ | ⟨i, h3, _⟩
    · obtain ⟨h5, h6⟩ := hother o h3 h4
      rw [h5] at h1
      rw [h6] at h2
      exact .inl ⟨o, h3, h1, h2⟩
    · obtain ⟨h5, h6⟩ := hob2b i
      rw [← h3, h5, alive_ren] at h1
      rw [← h3, h6] at h2
      exact .inr ⟨i, h1, h2⟩
  have hav2 : ∀ b, av c S2.ob μ2 b → av c S1.ob μ1 b ∨ (w.heap.size ≤ b ∧ own (obs objs') μ' b) := by
    rintro b (hb | hb)
    · exact .inl (.inl hb)
    · rcases hown2 b hb with ⟨o, _, h2, h3⟩ | h1
      · exact .inl (.inr ⟨o, h2, h3⟩)
      · rcases hp.mine b h1 with h2 | h2
        · exact .inl (.inr (hownS1 b h2))
        · exact .inr ⟨h2, h1⟩
  have hav2' : ∀ b, b < w.heap.size → av c S2.ob μ2 b → av c S1.ob μ1 b := fun b hb h => by
    rcases hav2 b h with h1 | ⟨h1, _⟩
    · exact h1
    · omega
  have hM : ∀ b, own (obs objs) μc b → av c S1.ob μ1 b := fun b hb => .inr (hownS1 b hb)
  have hmv2 : ∀ i, Moved (obs objs') μ' S2.ob μ2 i (back i) := fun i => by
    obtain ⟨h1, h2⟩ := hob2b i
    unfold Moved
    rw [h1, h2]
    cases obs objs' i <;> simp [OB.ren]
  have hA2 : (shownIn (E.call f).modes args1).isEmpty = true → ∀ b, av c S2.ob μ2 b → A b ∨ own (obs objs') μ' b := fun he b hb => by
    rcases hav2 b hb with h1 | h1
    · exact .inl ⟨h1, fun o ho => by rw [List.isEmpty_iff.1 he] at ho; cases ho⟩
    · exact .inr h1.2
  refine ⟨v, _, S2, μ2, rfl, hk, ⟨hsr1.defers, ?_, ⟨fun o => ?_, fun o o' b h1 h2 h3 h4 => ?_, fun b hb => .inr hb, fun b hb => ?_, lay_keep hsr1.objs.lay hp.keep hav2' hM⟩, ?_, fun b hb => ?_⟩, ?_, ?_⟩
  · have : S2.slots = S1.slots := by subst hS2; rfl
    rw [this]
    exact hsr1.slots.later hp.keep hav2' hM (fun o hoo => hlater o (huns.1 o hoo))
  · rcases hwhere o with ⟨h3, h4⟩ | ⟨i, h3, _⟩
    · obtain ⟨h5, h6⟩ := hother o h3 h4
      refine (hsr1.objs.each o).later hp.keep hav2' hM (.inl h5) (fun _ => h6) (fun b ha hb => ⟨fun hx => ?_, own_lt hsr1 ⟨o, ha, hb⟩⟩) (fun x hx => ?_) ?_
      · obtain ⟨o', g1, g2, g3⟩ := hownc b hx
        exact h3 (hsr1.objs.apart o o' b ha g2 hb g3 ▸ g1)
      · obtain ⟨b, hb, hx⟩ := ob_oids_mem hx
        exact hlater x (huns.2 b hb x hx)
      · rintro m hmo ha ⟨T, U, n', l', cu, hit⟩ b hb hx
        obtain ⟨o', g1, g2, g3⟩ := hownc b hx
        obtain ⟨b', hb', hx'⟩ := ob_oids_mem hmo
        obtain ⟨k1, _⟩ := (hlater m (huns.2 b' hb' m hx')).alive ha
        have := hsr1.objs.apart m o' b k1 g2 hb g3
        subst this
        have hmem : S1.ob o ∈ S1.objs := by
          have hlt := alive_lt (S := S1) (o := o) (by rw [hit]; rfl)
          simp only [St.ob, List.getD, List.getElem?_eq_getElem hlt, Option.getD_some]
          exact List.getElem_mem hlt
        exact noIters_iff.1 hnoi m g1 _ hmem _ _ _ _ _ _ hit rfl
    · obtain ⟨h5, h6⟩ := hob2b i
      rw [← h3]
      have h7 : OR w' (av c S2.ob μ2) (obs objs') μ' i := by
        rcases hsl with he | ⟨_, hl⟩
        · exact (hp.lie.each i).later (Keep.refl None w') (fun b _ hb => hA2 he b hb) (fun _ h => h.elim) (.inl rfl) (fun _ => rfl)
            (fun b ha hb => ⟨fun h => h.elim, hp.lie.old b (.inr ⟨i, ha, hb⟩)⟩) (fun x _ => Later.refl _ _ x)
        · exact OR.flat (noSl_obs hl i) (hp.lie.each i)
      exact OR.ren back h7 h5 h6 (fun x _ => hmv2 x)
  · have key : ∀ p q, p ∉ acc → p < S1.objs.length → (∃ i, back i = q) → (S2.ob p).alive = true → (S2.ob q).alive = true → blkOf (μ2 p) = some b → blkOf (μ2 q) = some b → False := by
      rintro p q hp1 hp2 ⟨i, rfl⟩ g1 g2 g3 g4
      obtain ⟨k1, k2⟩ := hother p hp1 hp2
      obtain ⟨k3, k4⟩ := hob2b i
      rw [k1] at g1
      rw [k2] at g3
      rw [k3, alive_ren] at g2
      rw [k4] at g4
      rcases hp.mine b ⟨i, g2, g4⟩ with h | h
      · obtain ⟨o', m1, m2, m3⟩ := hownc b h
        exact hp1 (hsr1.objs.apart p o' b g1 m2 g3 m3 ▸ m1)
      · have := own_lt hsr1 ⟨p, g1, g3⟩; omega
    rcases hwhere o with ⟨k1, k2⟩ | ⟨i, k1, _⟩ <;> rcases hwhere o' with ⟨k3, k4⟩ | ⟨j, k3, _⟩
    · obtain ⟨m1, m2⟩ := hother o k1 k2
      obtain ⟨m3, m4⟩ := hother o' k3 k4
      rw [m1] at h1; rw [m3] at h2; rw [m2] at h3; rw [m4] at h4
      exact hsr1.objs.apart o o' b h1 h2 h3 h4
    · exact (key o o' k1 k2 ⟨j, k3⟩ h1 h2 h3 h4).elim
    · exact (key o' o k3 k4 ⟨i, k1⟩ h2 h1 h4 h3).elim
    · obtain ⟨m1, m2⟩ := hob2b i
      obtain ⟨m3, m4⟩ := hob2b j
      rw [← k1, m1, alive_ren] at h1; rw [← k3, m3, alive_ren] at h2; rw [← k1, m2] at h3; rw [← k3, m4] at h4
      rw [← k1, ← k3, hp.lie.apart i j b h1 h2 h3 h4]
  · rcases hav2 b hb with h1 | ⟨_, h1⟩
    · exact Nat.lt_of_lt_of_le (hsr1.objs.old b h1) hp.keep.size
    · exact hp.lie.old b (.inr h1)
  · refine hsr1.keep.trans hp.keep (fun _ h => h) (fun b hb hx => ?_)
    rcases hsr1.mine b (hownS1 b hx) with h1 | h1
    · exact h1
    · omega
  · rcases hown2 b hb with ⟨o, _, h2, h3⟩ | h1
    · exact hsr1.mine b ⟨o, h2, h3⟩
    · rcases hp.mine b h1 with h2 | h2
      · exact hsr1.mine b (hownS1 b h2)
      · exact .inr (Nat.le_trans hsr1.keep.size h2)
  · refine VR.ren back (fun x _ => hmv2 x) ?_
    rcases hsl with he | ⟨hl, _⟩
    · exact VR.later (Keep.refl None w') (fun b _ hb => hA2 he b hb) (fun _ h => h.elim) (fun o _ => Later.refl _ _ o) hp.res
    · exact VR.flat hl hp.res
  · have hn1 : n ≤ S1.objs.length := hag1.olen
    refine hag1.trans (ds' := []) ⟨by subst hS2; rfl, fun t _ => by subst hS2; rfl, ?_, fun i hi => ?_, fun i hi => by subst hS2; cases (E.call f).ro <;> simp [hi], fun i hi => hlater i (by omega)⟩ (fun _ h => h) (fun _ h => h)
    · have : S1.objs.length ≤ S2.objs.length := by
        subst hS2
        have : ∀ (acc : List Nat) (l objs : List OB), objs.length ≤ (writeBack back acc l objs).length := by
          intro acc
          induction acc with
          | nil => intro l objs; simp [writeBack]
          | cons a acc ih =>
            intro l objs
            cases l with
            | nil => simp [writeBack]
            | cons b l => simp only [writeBack]; have := ih l (objs.set a (b.ren back)); simpa using this
        exact this _ _ _
      omega
    · by_cases h1 : i ∈ acc
      · by_cases hr : (E.call f).ro = true
        · left
          obtain ⟨new, hnew⟩ := hro hr
          simp only at hnew
          obtain ⟨q1, q2⟩ := posOf_mem h1
          rw [hob2, if_pos h1, hnew]
          have e1 : obs (objs ++ new) (posOf i acc) = obs objs (posOf i acc) := by
            simp only [obs, List.getD]
            rw [List.getElem?_append_left (by omega)]
          rw [e1, hobsi _ q1, q2]
          refine OB.ren_ren _ _ (fun x hx => ?_)
          obtain ⟨q3, q4⟩ := posOf_mem (hcl i h1 x hx)
          rw [hback1 _ q3, q4]
        · right; subst hS2; rw [show (E.call f).ro = false from by simpa using hr]; simp [h1]
      · exact .inl (hother i h1 (by omega)).1
theorem show_oids : ∀ (ms : List Mode) (args as : List PV), showArgs S ms args = some as → ∀ o ∈ PV.oidsL as, o ∈ PV.oidsL args
  | [], vs, as, h => by
    simp only [showArgs, Option.some.injEq] at h
    subst h
    exact fun _ h => h
  | m :: ms, [], as, h => by
    have : as = [] := by cases m <;> simpa [showArgs] using h.symm
    subst this
    exact fun _ h => h
  | m :: ms, v :: vs, as, h => by
    cases m with
    | val =>
      simp only [showArgs] at h
      obtain ⟨l, h1, h2⟩ := Option.bind_eq_some_iff.1 h
      cases h2
      intro o ho
      simp only [PV.oidsL, List.mem_append] at ho ⊢
      exact ho.imp id (show_oids ms vs l h1 o)
    | rw T =>
      simp only [showArgs] at h
      obtain ⟨l, h1, h2⟩ := Option.bind_eq_some_iff.1 h
      cases h2
      intro o ho
      simp only [PV.oidsL, List.mem_append] at ho ⊢
      exact ho.imp id (show_oids ms vs l h1 o)
    | ro T =>
      simp only [showArgs] at h
      obtain ⟨xs, h0, h⟩ := Option.bind_eq_some_iff.1 h
      obtain ⟨l, h1, h2⟩ := Option.bind_eq_some_iff.1 h
      cases h2
      intro o ho
      simp only [PV.oidsL, PV.oids, List.mem_append, List.nil_append] at ho ⊢
      exact .inr (show_oids ms vs l h1 o ho)
theorem dead_of {b : OB} (h : b.alive = false) : b = .dead := by cases b <;> first | rfl | cases h
/-- what giving up does -/
theorem give_sound : ∀ (l : List Nat) {S : St}, SR c S μ a w → n ≤ S.objs.length →
    SR c (giveUp S l) μ a w ∧ Ag n [] S μ (giveUp S l) μ ∧ (giveUp S l).slots = S.slots ∧ (∀ i, Later S.ob μ (giveUp S l).ob μ i) ∧ (∀ i, (giveUp S l).ob i = S.ob i ∨ (giveUp S l).ob i = .dead) ∧ (∀ o ∈ l, (giveUp S l).ob o = .dead)
  | [], S, h, hn => ⟨h, Ag.refl _ hn, rfl, fun i => Later.refl _ _ i, fun i => .inl rfl, fun o ho => by cases ho⟩
  | o :: l, S, h, hn => by
    simp only [giveUp]
    by_cases ha : (S.ob o).alive = true
    · rw [ha, cond_true]
      have hob := ob_setOb S o .dead ha
      have hlen : (S.setOb o .dead).objs.length = S.objs.length := by simp [St.setOb]
      obtain ⟨g1, g2, g3, g4, g5, g6⟩ := give_sound l (h.kill ha) (by rw [hlen]; exact hn)
      have hlat : ∀ x, Later S.ob μ (S.setOb o .dead).ob μ x := fun x => by
        rw [hob]
        unfold Later
        by_cases e : x = o
        · subst e; rw [upd_same]; trivial
        · rw [upd_other _ _ e]
          cases hx : S.ob x <;> simp
      have hag : Ag n [] S μ (S.setOb o .dead) μ := ⟨rfl, fun t _ => rfl, by rw [hlen]; exact hn, fun i _ => by
        by_cases e : i = o
        · exact .inr (by simp [St.setOb, e])
        · exact .inl (by rw [hob, upd_other _ _ e]), fun i hi => by simp [St.setOb, hi], fun i _ => hlat i⟩
      have h5 : ∀ i, (giveUp (S.setOb o .dead) l).ob i = S.ob i ∨ (giveUp (S.setOb o .dead) l).ob i = .dead := fun i => by
        rcases g5 i with e | e
        · by_cases e2 : i = o
          · right; rw [e, hob, e2, upd_same]
          · left; rw [e, hob, upd_other _ _ e2]
        · exact .inr e
      refine ⟨g1, hag.trans g2 (fun _ h => h) (fun _ h => h), g3, fun i => (hlat i).trans (g4 i), h5, fun x hx => ?_⟩
      rcases List.mem_cons.1 hx with rfl | hx
      · rcases g5 x with e | e
        · rw [e, hob, upd_same]
        · exact e
      · exact g6 x hx
    · have ha : (S.ob o).alive = false := by simpa using ha
      rw [ha, cond_false]
      obtain ⟨g1, g2, g3, g4, g5, g6⟩ := give_sound l h hn
      refine ⟨g1, g2, g3, g4, g5, fun x hx => ?_⟩
      rcases List.mem_cons.1 hx with rfl | hx
      · rcases g5 x with e | e
        · rw [e]; exact dead_of ha
        · exact e
      · exact g6 x hx
/-- what is known of all, and of the call at hand -/
structure EnvC (P : Program) (E : Env) (c : Cx) : Prop where
  ok : EnvOK P E
  give : E.give = true → ∀ b, ¬ c.M0 b
theorem callG_sound {f : Nat} (hE : EnvC P E c) {args : List PV} {vals : List Value} {K : St → PV → Option ρ} (h : evCallG E f args S K = some r) (hsr : SR c S μ a w) (hv : TRs w (av c S.ob μ) S.ob μ args vals)
    (ho : ∀ o ∈ PV.oidsL args, o ∈ PV.oidsL S.slots) (hn : n ≤ S.objs.length) :
    Enters P f ∧ Calls P f vals.toArray w fun e w' => ∃ v pv S' μ', e = .returned v ∧ K S' pv = some r ∧ SR c S' μ' a w' ∧ VR w' (av c S'.ob μ') S'.ob μ' pv v ∧ Ag n [] S μ S' μ' := by
  unfold evCallG at h
  cases hg : (E.give && ((E.call f).slr && !(shownIn (E.call f).modes args).isEmpty)) with
  | false =>
    rw [hg, cond_false] at h
    exact call_sound (hE.ok.2 f) h hsr hv ho hn
  | true =>
    rw [hg, cond_true] at h
    have hM := hE.give (by simp only [Bool.and_eq_true] at hg; exact hg.1)
    obtain ⟨as, has, h⟩ := optK_some h
    obtain ⟨g1, g2, g3, g4, g5, g6⟩ := give_sound (n := n) (shownIn (E.call f).modes args) hsr hn
    generalize hS' : giveUp S (shownIn (E.call f).modes args) = S' at *
    have hback : ∀ i, (S'.ob i).alive = true → (S.ob i).alive = true := fun i hi => by
      rcases g5 i with e | e
      · rwa [e] at hi
      · rw [e] at hi; cases hi
    have hown : ∀ b, own S'.ob μ b → own S.ob μ b := fun b ⟨o, h1, h2⟩ => ⟨o, hback o h1, h2⟩
    have hA : ∀ b, av c S'.ob μ b → av c S.ob μ b := fun b hb => hb.imp id (hown b)
    have h1 := showArgs_sound hsr.objs hA _ _ _ _ has hv (fun o hoo b hb hav => by
      have hal := shown_alive _ _ _ has o hoo
      rcases hav with hav | ⟨o', h1, h2⟩
      · have h3 := c.old b hav
        rcases hsr.mine b ⟨o, hal, hb⟩ with h4 | h4
        · exact hM b h4
        · omega
      · have e : o' = o := hsr.objs.apart o' o b (hback o' h1) hal h2 hb
        rw [e, g6 o hoo] at h1
        cases h1)
    have h2 : TRs w (av c S'.ob μ) S'.ob μ as vals := TRs.later (Keep.refl None w) (fun b _ hb => hb) (fun _ h => h.elim) as (fun o _ => g4 o) vals h1
    obtain ⟨k1, k2⟩ := call_sound (n := n) (hE.ok.2 f) h g1 h2 (fun o hoo => by rw [g3]; exact ho o (show_oids _ _ _ has o hoo)) g2.olen
    refine ⟨k1, k2.mono ?_⟩
    rintro e w' ⟨v, pv, S2, μ2, rfl, j1, j2, j3, j4⟩
    exact ⟨v, pv, S2, μ2, rfl, j1, j2, j3, g2.trans j4 (fun _ h => h) (fun _ h => h)⟩
end
end Go.Vm

/- Vm, part 15: whatever an operation does. Own work. -/
set_option linter.unusedVariables false
set_option linter.unusedSimpArgs false
set_option linter.unusedSectionVars false
namespace Go.Vm
variable [MonotC]
open Go.RowKit
section
variable {P : Program} {E : Env} {c : Cx} {S : St} {μ : Nat → Value} {a : Act} {w : World} {o : Oper} {al n : Nat} {ds : List Nat} {ρ : Type} {r : ρ} {K : St → Option ρ} {next : Act → World → Prop} {Q : Exit → Act → World → Prop}
theorem TRs.append {w : World} {A : Nat → Prop} {ob : Nat → OB} {μ : Nat → Value} : ∀ {l m : List PV} {vs us : List Value}, TRs w A ob μ l vs → TRs w A ob μ m us → TRs w A ob μ (l ++ m) (vs ++ us)
  | [], m, vs, us, h, k => by simp only [TRs] at h; subst h; simpa using k
  | v :: l, m, vs, us, h, k => by
    simp only [TRs] at h
    obtain ⟨x, rest, rfl, hx, hr⟩ := h
    simp only [List.cons_append, TRs]
    exact ⟨x, _, rfl, hx, TRs.append hr k⟩
theorem oidsL_map {S : St} (l : List Operand) : ∀ o ∈ PV.oidsL (l.map (opd S)), o ∈ PV.oidsL S.slots := by
  induction l with
  | nil => intro o h; simp [PV.oidsL] at h
  | cons x l ih =>
    intro o h
    simp only [List.map_cons, PV.oidsL, List.mem_append] at h
    rcases h with h | h
    · exact opd_oids h
    · exact ih o h
/-- a call, in the state -/
theorem call_step (hE : EnvC P E c) (hsr : SR c S μ a w) {c0 : Call} {x : Operand} (hop : o.op = .call c0) (hcal : c0.callee = .value x) (h : evF E o S al K = some r) (hd : ∀ t, o.dst = some t → t ∈ ds) (hn' : n ≤ S.objs.length)
    (hnext : ∀ S' μ' a' w', K S' = some r → SR c S' μ' a' w' → Ag n ds S μ S' μ' → next a' w') : o.wp P a w next Q := by
  simp only [evF, hop, hcal] at h
  have hf := hsr.slots.opd x
  split at h
  · rename_i g caps hx
    rw [hx] at hf
    obtain ⟨vs, he, hcaps⟩ := hf.func
    have hargs : TRs w (av c S.ob μ) S.ob μ (c0.args.toList.map (opd S) ++ caps) (c0.args.toList.map a.eval ++ vs.toList) := (hsr.slots.trs _).append hcaps
    obtain ⟨hen, hcalls⟩ := callG_sound (n := n) hE h hsr hargs (fun o ho => by
      rw [oidsL_append, List.mem_append] at ho
      rcases ho with ho | ho
      · exact oidsL_map _ o ho
      · exact opd_oids (x := x) (by rw [hx]; simpa [PV.oids] using ho)) hn'
    have hrun : (execOp a.eval o).run P w = .ok (.enter g (c0.args.map a.eval ++ vs)) w := by
      simp only [execOp, hop, resolve, hcal, he, Deferred.ofValue, invoke, Sem.run_bind, Sem.run_pure, Result.andThen, hen]
      rw [← hen (c0.args.map a.eval ++ vs) w]
      simp [invoke]
    simp only [Oper.wp, hrun, Oper.upon_enter]
    have e : (c0.args.toList.map a.eval ++ vs.toList).toArray = c0.args.map a.eval ++ vs := by simp
    rw [e] at hcalls
    refine hcalls.mono ?_
    rintro e w' ⟨v, pv, S', μ', rfl, hk, h1, h2, h3⟩
    refine hnext _ μ' _ _ hk ⟨by rw [put_defers]; exact h1.defers, ?_, by rw [put_ob]; exact h1.objs, h1.keep, by rw [put_ob]; exact h1.mine⟩ ?_
    · rw [put_ob]; exact Slots.put h1.slots rfl h2
    · refine h3.trans (ds' := ds) ⟨put_len _ _ _, fun t ht => put_slots _ _ _ _ (fun e => ht (hd t e)), by rw [put_objs]; exact h3.olen, fun i _ => .inl (by rw [put_ob]), fun i hi => by rw [put_touched]; exact hi, fun i _ => by rw [put_ob]; exact Later.refl _ _ i⟩ (fun _ h => by cases h) (fun _ h => h)
  · cases h
theorem evF_sound (hE : EnvC P E c) (hsr : SR c S μ a w) (h : evF E o S al K = some r) (hd : ∀ t, o.dst = some t → t ∈ ds) (hn : n ≤ al) (hn' : n ≤ S.objs.length)
    (hnext : ∀ S' μ' a' w', K S' = some r → SR c S' μ' a' w' → Ag n ds S μ S' μ' → next a' w') : o.wp P a w next Q := by
  cases hop : o.op with
  | store t x y => exact store_sound hE.ok.1 hsr hop h hd hn' hnext
  | mapUpdate t x k y => exact mapUpdate_sound hE.ok.1 hsr (.inl hop) h hd hn' hnext
  | insert t x k y => exact mapUpdate_sound hE.ok.1 hsr (.inr hop) h hd hn' hnext
  | mapEntry t x k => exact mapEntry_sound hE.ok.1 hsr hop h hd hn' hnext
  | entryStore t x k y => exact entryStore_sound hE.ok.1 hsr hop h hd hn' hnext
  | slice t x lo hi mx => exact rowSlice_sound hE.ok.1 hsr hop h hd hn hn' hnext
  | call c0 =>
    cases hcal : c0.callee with
    | value x => exact call_step hE hsr hop hcal h hd hn' hnext
    | invoke x y => simp only [evF, hop, hcal] at h; cases h
    | builtin b =>
      cases b with
      | append => exact append_sound hE.ok.1 hsr hop hcal h hd hn hn' hnext
      | clear => exact clear_sound hE.ok.1 hsr hop hcal h hd hn' hnext
      | copy => exact copy_sound hE.ok.1 hsr hop hcal h hd hn' hnext
      | delete => exact delete_sound hE.ok.1 hsr hop hcal h hd hn' hnext
      | _ => exact quiet_step hE.ok.1 hsr (by simp only [evF, hop, hcal] at h; exact h) hd hn hn' hnext
  | _ => exact quiet_step hE.ok.1 hsr (by simp only [evF, hop] at h; exact h) hd hn hn' hnext
end
end Go.Vm

/- Vm, part 16: regions. Own work. -/
set_option linter.unusedVariables false
set_option linter.unusedSimpArgs false
set_option linter.unusedSectionVars false
namespace Go.Vm
variable [MonotC]
open Go.RowKit
section
variable {P : Program} {E : Env} {c : Cx} {S : St} {μ : Nat → Value} {a : Act} {w : World} {o : Oper} {al n : Nat} {ds : List Nat} {ρ : Type} {r : ρ} {K : St → Option ρ} {next : Act → World → Prop} {Q : Exit → Act → World → Prop}
/-- is it wanted? where it is known -/
def wanted (all : List Oper) (o : Oper) (S : St) : Bool :=
  match guardOf all o with
  | some (some (g, want)) => match S.slots.getD g .undef with
    | .bool b => b == want
    | _ => false
  | _ => true
theorem set_same {S : St} {g : Nat} {b : Bool} (h : S.slots.getD g .undef = .bool b) : ({ S with slots := S.slots.set g (.bool b) } : St) = S := by
  have : S.slots.set g (.bool b) = S.slots := by
    apply List.ext_getElem?
    intro i
    rw [List.getElem?_set]
    by_cases e : g = i
    · subst e
      rw [if_pos rfl]
      simp only [List.getD] at h
      split
      · cases hx : S.slots[g]? with
        | none => simp [hx] at h
        | some v => simp [hx] at h; rw [h]
      · rename_i hlt
        have : S.slots[g]? = none := by simp; omega
        rw [this]
    · rw [if_neg e]
  rw [this]
theorem wantK_some {all : List Oper} {yes no : St → Option ρ} (h : wantK all o S yes no = some r) :
    (wanted all o S = true ∧ yes S = some r) ∨ (wanted all o S = false ∧ no S = some r) := by
  unfold wantK at h
  unfold wanted
  split at h
  · cases h
  · rename_i hg
    rw [hg]
    exact .inl ⟨rfl, h⟩
  · rename_i g want hg
    rw [hg]
    simp only
    split at h
    · rename_i b hb
      rw [hb]
      simp only
      cases b <;> cases want <;> simp only [cond_true, cond_false] at h <;> rw [set_same hb] at h
      · exact .inl ⟨rfl, h⟩
      · exact .inr ⟨rfl, h⟩
      · exact .inr ⟨rfl, h⟩
      · exact .inl ⟨rfl, h⟩
    · rename_i hb
      rw [hb]
      exact .inr ⟨rfl, h⟩
    · cases h
theorem wanted_ok {ops : Array Oper} (hsr : SR c S μ a w) {yes no : St → Option ρ} (h : wantK ops.toList o S yes no = some r) : Region.wanted o (yielded ops a.tmps) = wanted ops.toList o S := by
  unfold wantK at h
  unfold wanted Region.wanted
  unfold guardOf at h ⊢
  cases hg : o.guard with
  | none => rfl
  | some p =>
    obtain ⟨i, want⟩ := p
    simp only [hg] at h ⊢
    cases hd : (ops.toList[i]?).bind (·.dst) with
    | none => simp only [hd, reduceCtorEq] at h
    | some g =>
      simp only [hd] at h ⊢
      have hd' : (ops[i]?).bind (·.dst) = some g := by rw [← hd]; simp
      simp only [yielded, hd', Option.bind_some]
      have hv := hsr.slots.opd (.tmp g)
      simp only [opd, Act.eval] at hv
      split at h
      · rename_i b hb
        rw [hb] at hv ⊢
        have e := hv.bool
        have : a.tmps[g]? = some (.bool b) := by
          cases hx : a.tmps[g]? with
          | none => simp [hx] at e; cases e
          | some v => simp [hx] at e; rw [e]
        rw [this]
        simp
      · rename_i hb
        rw [hb] at hv ⊢
        have e := hv.undef
        cases hx : a.tmps[g]? with
        | none => simp
        | some v =>
          simp [hx] at e
          subst e
          simp [Go.undef]
      · cases h
theorem SR.skip (hsr : SR c S μ a w) (hd : ∀ t, o.dst = some t → t ∈ ds) (hn : n ≤ S.objs.length) : SR c (S.put o.dst .undef) μ (a.put o.dst Go.undef) w ∧ Ag n ds S μ (S.put o.dst .undef) μ := by
  refine ⟨⟨?_, ?_, ?_, hsr.keep, ?_⟩, ?_⟩
  · rw [put_defers]; exact hsr.defers
  · rw [put_ob]; exact Slots.put hsr.slots rfl .mk_undef
  · rw [put_ob]; exact hsr.objs
  · rw [put_ob]; exact hsr.mine
  · refine ⟨put_len _ _ _, fun t ht => put_slots _ _ _ _ (fun e => ht (hd t e)), ?_, fun i _ => .inl ?_, fun i hi => ?_, fun i _ => ?_⟩
    · rw [put_objs]; exact hn
    · rw [put_ob]
    · rw [put_touched]; exact hi
    · rw [put_ob]; exact Later.refl _ _ i
theorem dstsOps_mem {l : List Oper} {o : Oper} {t : Nat} (h : o ∈ l) (ht : o.dst = some t) : t ∈ dstsOps l := by
  induction l with
  | nil => cases h
  | cons p l ih =>
    simp only [dstsOps, List.mem_append]
    rcases List.mem_cons.1 h with e | h
    · left; rw [← e, ht]; simp
    · exact .inr (ih h)
/-- operations as they stand -/
theorem evOps_sound {ops : Array Oper} (hE : EnvC P E c) : ∀ (l : List Oper) (i : Nat) {S : St} {μ : Nat → Value} {a : Act} {w : World}, ops.toList.drop i = l → evOps E ops.toList l S K = some r → SR c S μ a w → (∀ o ∈ l, ∀ t, o.dst = some t → t ∈ ds) → n ≤ S.objs.length →
    (∀ S' μ' a' w', K S' = some r → SR c S' μ' a' w' → Ag n ds S μ S' μ' → Q .normal a' w') → wpOps P ops Q (List.range' i l.length) a w
  | [], i, S, μ, a, w, hl, h, hsr, hd, hn, hQ => by
    simp only [evOps] at h
    simp only [List.length_nil, List.range'_zero, wpOps]
    exact hQ S μ a w h hsr (Ag.refl ds hn)
  | o :: l, i, S, μ, a, w, hl, h, hsr, hd, hn, hQ => by
    have hi : ops[i]? = some o := by
      have := congrArg (·[0]?) hl
      simpa using this
    have hl' : ops.toList.drop (i + 1) = l := by
      have := congrArg List.tail hl
      simpa using this
    simp only [evOps] at h
    simp only [List.length_cons, List.range'_succ, wpOps, hi]
    have hw := wanted_ok hsr h
    have hrec : ∀ S' μ' a' w', evOps E ops.toList l S' K = some r → SR c S' μ' a' w' → Ag n ds S μ S' μ' → wpOps P ops Q (List.range' (i + 1) l.length) a' w' := fun S' μ' a' w' hk hsr' hag =>
      evOps_sound hE l (i + 1) hl' hk hsr' (fun o' ho' => hd o' (by simp [ho'])) hag.olen (fun S2 μ2 a2 w2 g1 g2 g3 => hQ S2 μ2 a2 w2 g1 g2 (hag.trans g3 (fun _ h => h) (fun _ h => h)))
    rcases wantK_some h with ⟨hw1, h⟩ | ⟨hw1, h⟩
    · rw [hw, hw1, if_pos rfl]
      exact .inl (evF_sound hE hsr h (hd o (by simp)) hn hn hrec)
    · rw [hw, hw1]
      simp only [Bool.false_eq_true, if_false]
      obtain ⟨h1, h2⟩ := hsr.skip (o := o) (ds := ds) (hd o (by simp)) hn
      exact hrec _ μ _ _ h h1 h2
end
end Go.Vm
