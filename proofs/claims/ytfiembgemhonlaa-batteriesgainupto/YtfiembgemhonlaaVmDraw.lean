/- Vm, part 17: regions that draw their order. Own work. -/
import Derived.Test.YtfiembgemhonlaaVmReg
set_option linter.unusedVariables false
set_option linter.unusedSimpArgs false
namespace Go.Vm
open Go.RowKit
section
variable {E : Env} {S S' : St} {o : Oper} {al : Nat} {ρ : Type}
theorem ob_objs (h : S'.objs = S.objs) : S'.ob = S.ob := by funext x; simp only [St.ob, h]
theorem asData_congr (h : S'.objs = S.objs) (T : Ty) (x : PV) : asData S' T x = asData S T x := by
  unfold asData; rw [ob_objs h]
theorem lenOf_congr (h : S'.objs = S.objs) (t : Option Nat) (x : PV) (K : PV → Option ρ) : lenOf E S' t x K = lenOf E S t x K := by
  unfold lenOf; rw [ob_objs h]
theorem boundK_congr {x : Option Operand} (h : ∀ y, x = some y → opd S' y = opd S y) (d : Int) (K : Int → Option ρ) : evP.boundK S' x d K = evP.boundK S x d K := by
  unfold evP.boundK
  cases x with
  | none => rfl
  | some y => simp only [h y rfl]
theorem buildK_congr {d : TD} : ∀ (l : List (Nat × Operand)) (h : ∀ p ∈ l, opd S' p.2 = opd S p.2) (v : PV) (K : PV → Option ρ), evP.buildK S' d l v K = evP.buildK S d l v K
  | [], _, v, K => rfl
  | p :: l, h, v, K => by
    simp only [evP.buildK, h p (by simp)]
    split
    · rw [buildK_congr l (fun q hq => h q (by simp [hq]))]
    · rfl
theorem parts_congr {T : Ty} : ∀ (l : List (Nat × Operand)) (h : ∀ p ∈ l, opd S' p.2 = opd S p.2) (i : Nat), evP.implodeParts S' T i l = evP.implodeParts S T i l
  | [], _, i => rfl
  | p :: l, h, i => by
    simp only [evP.implodeParts, h p (by simp), parts_congr l (fun q hq => h q (by simp [hq]))]
theorem map_congr {l : List Operand} (h : ∀ x ∈ l, opd S' x = opd S x) : l.map (opd S') = l.map (opd S) := List.map_congr_left h
theorem evP_congr (ho : S'.objs = S.objs) (h : ∀ x ∈ o.op.operands, opd S' x = opd S x) (K : PV → Option OB → Option ρ) : evP E o S' al K = evP E o S al K := by
  have hob := ob_objs ho
  cases hop : o.op <;> rw [hop] at h <;> simp only [Op.operands] at h <;> simp only [evP, hop]
  case move x => rw [h x (by simp)]
  case assign x => rw [h x (by simp)]
  case pick x y z => rw [h x (by simp), h y (by simp), h z (by simp)]
  case box t x => rw [h x (by simp)]
  case build t ps => simp only [buildK_congr ps.toList (fun p hp => h p.2 (by simp; exact ⟨p.1, by simpa using hp⟩))]
  case buildSlice t n ps => simp only [parts_congr ps.toList (fun p hp => h p.2 (by simp; exact ⟨p.1, by simpa using hp⟩))]
  case load t x => rw [h x (by simp), hob]
  case binOp op t x y e => rw [h x (by simp), h y (by simp)]
  case unOp op t x =>
    have := h x (by simp)
    cases op <;> first | rfl | (simp only; rw [this])
  case convert s t x => rw [h x (by simp)]
  case makeFunc f first caps =>
    have := map_congr (S := S) (S' := S') (l := caps.toList) (fun x hx => h x (by simp at hx; simp [hx]))
    cases f <;> first | rfl | (simp only; rw [this])
  case makeSlice t x y => rw [h x (by simp), h y (by simp)]
  case slice t x lo hi mx =>
    rw [h x (by simp)]
    simp only [boundK_congr (x := lo) (fun y hy => h y (by simp [hy])), boundK_congr (x := hi) (fun y hy => h y (by simp [hy]))]
  case fieldAddr s x f => rw [h x (by simp), hob]
  case indexAddr t x y => rw [h x (by simp), h y (by simp), hob]
  case index t x y => rw [h x (by simp), h y (by simp)]
  case extract x i => rw [h x (by simp)]
  case call c =>
    have ha : c.args.toList.map (opd S') = c.args.toList.map (opd S) := map_congr (fun x hx => h x (by simp at hx; simp [Call.operands, hx]))
    cases hc : c.callee with
    | value f => rfl
    | invoke r m => rfl
    | builtin b =>
      rw [ha]
      cases b <;> try rfl
      case len =>
        simp only
        split
        · rename_i x hx
          rw [h x (by simp [Call.operands]; right; simp [← Array.mem_toList_iff, hx]), lenOf_congr ho]
        · rfl

/-! ### One answer, whatever follows -/
abbrev both (x : Option (PV × Option OB)) (K : PV → Option OB → Option ρ) : Option ρ := optK x fun p => K p.1 p.2
theorem both_cond (b : Bool) (x y : Option (PV × Option OB)) (K : PV → Option OB → Option ρ) : both (cond b x y) K = cond b (both x K) (both y K) := by cases b <;> rfl
theorem binSl_both (okS : Bool) (op : BinOp) (n : Nat) (K : PV → Option OB → Option ρ) : binSl okS op n (fun v => K v none) = both (binSl okS op n (fun v => some (v, none))) K := by
  unfold binSl
  cases op <;> simp only [both, optK] <;> (first | rfl | (cases okS <;> simp only [cond_true, cond_false] <;> cases Nat.ble n 0 <;> rfl))
theorem bin_both (okB okS : Bool) (op : BinOp) (x y : PV) (K : PV → Option OB → Option ρ) : bin okB okS op x y (fun v => K v none) = both (bin okB okS op x y (fun v => some (v, none))) K := by
  unfold bin
  split
  · split
    · cases op <;> simp only [both, optK] <;> (first | rfl | (rename_i b _ ; by_cases hb : b = 0 <;> simp [hb, optK]) | (split <;> simp_all))
    · rfl
  · cases op <;> simp only [both, optK] <;> (first | rfl | (split <;> simp_all) | skip)
    all_goals (rename_i a b; by_cases hb : a.size + b.size < 4611686018427387904 <;> simp [hb])
  · cases op <;> simp only [both, optK] <;> (first | rfl | (cases okB <;> rfl))
  · exact binSl_both _ _ _ _
  · rfl
theorem foldMM_both (op : BinOp) : ∀ (l : List PV) (x : PV) (K : PV → Option OB → Option ρ), foldMM op x l (fun v => K v none) = both (foldMM op x l (fun v => some (v, none))) K
  | [], x, K => by cases x <;> rfl
  | y :: l, x, K => by
    by_cases hx : ∃ k a k' b, x = .int k a ∧ y = .int k' b
    · obtain ⟨k, a, k', b, rfl, rfl⟩ := hx
      simp only [foldMM]
      by_cases hk : k = k'
      · simp only [hk, if_true]; exact foldMM_both op l _ K
      · simp only [hk, if_false]; rfl
    · cases x <;> cases y <;> first | (exfalso; exact hx ⟨_, _, _, _, rfl, rfl⟩) | rfl | (simp only [foldMM]; rfl)
theorem buildK_both {d : TD} : ∀ (l : List (Nat × Operand)) (v : PV) (K : PV → Option OB → Option ρ), evP.buildK S d l v (fun v => K v none) = both (evP.buildK S d l v (fun v => some (v, none))) K
  | [], v, K => rfl
  | p :: l, v, K => by
    simp only [evP.buildK]
    split
    · rw [both_cond, buildK_both l]; rfl
    · rfl
theorem lenOf_both (t : Option Nat) (x : PV) (K : PV → Option OB → Option ρ) : lenOf E S t x (fun v => K v none) = both (lenOf E S t x (fun v => some (v, none))) K := by
  unfold lenOf
  repeat' split
  all_goals first | rfl | (rw [both_cond]; rfl) | (simp_all; done)
theorem boundK_both (x : Option Operand) (d : Int) (K : PV → Option OB → Option ρ) (f : Int → Option (PV × Option OB)) : evP.boundK S x d (fun i => both (f i) K) = both (evP.boundK S x d f) K := by
  unfold evP.boundK
  repeat' split
  all_goals first | rfl | (simp_all; done)
theorem evP_both (K : PV → Option OB → Option ρ) : evP E o S al K = both (evP E o S al (fun v b => some (v, b))) K := by
  cases hop : o.op <;> simp only [evP, hop] <;> try rfl
  case pick x y z => split <;> first | rfl | (rw [both_cond]; rfl)
  case box t x => split <;> first | rfl | (rw [both_cond]; rfl)
  case build t ps => split <;> first | rfl | (rw [both_cond, buildK_both]; rfl)
  case buildSlice t n ps => split <;> first | rfl | (rw [both_cond]; congr 1; cases evP.implodeParts S _ 0 ps.toList <;> rfl)
  case load t x =>
    repeat' split
    all_goals first | rfl | (rw [both_cond]; rfl) | (rw [both_cond]; congr 1; cases getT _ _ _ <;> first | rfl | (simp only [optK, both_cond]))
  case binOp op t x y e => exact bin_both _ _ _ _ _ K
  case unOp op t x => cases op <;> first | rfl | (simp only; split <;> rfl)
  case convert s t x =>
    repeat' split
    all_goals rfl
  case alloc t => split <;> rfl
  case makeFunc f first caps => cases f <;> first | rfl | (simp only; split <;> rfl)
  case makeSlice t x y => repeat' split
                          all_goals first | rfl | (rw [both_cond]; rfl)
  case slice t x lo hi mx =>
    cases mx <;> try rfl
    simp only
    split
    · split
      · rw [← boundK_both]; congr 1; funext l; rw [← boundK_both]; congr 1; funext h; rw [both_cond]; rfl
      · rfl
    · rw [← boundK_both]; congr 1; funext l; rw [← boundK_both]; congr 1; funext h; rw [both_cond]; rfl
    · rfl
  case fieldAddr s x f =>
    repeat' split
    all_goals first | rfl | (rw [both_cond]; rfl)
  case indexAddr t x y =>
    repeat' split
    all_goals first | rfl | (rw [both_cond]; rfl)
  case index t x y =>
    repeat' split
    all_goals first | rfl | (rw [both_cond]; rfl)
  case extract x i =>
    repeat' split
    all_goals first | rfl | (rw [both_cond]; rfl)
  case call c =>
    cases hc : c.callee with
    | value f => rfl
    | invoke r m => rfl
    | builtin b =>
      cases b <;> try rfl
      case len => simp only; split <;> first | rfl | exact lenOf_both _ _ K
      case min => simp only; split <;> first | rfl | exact foldMM_both _ _ _ K
      case max => simp only; split <;> first | rfl | exact foldMM_both _ _ _ K

theorem showArgs_congr (h : S'.objs = S.objs) : ∀ (ms : List Mode) (vs : List PV), showArgs S' ms vs = showArgs S ms vs
  | [], vs => by simp only [showArgs]
  | m :: ms, [] => by cases m <;> rfl
  | m :: ms, v :: vs => by
    cases m <;> simp only [showArgs, showArgs_congr h ms vs, asData_congr h]
theorem operands_call {c : Call} {x : Operand} (h : x ∈ c.args.toList) : x ∈ c.operands := by
  simp only [Call.operands]
  split <;> simp at h ⊢ <;> simp [h]
theorem evQuiet_congr (ho : S'.objs = S.objs) (h : ∀ x ∈ o.op.operands, opd S' x = opd S x) (K : PV → Option OB → Option ρ) : evQuiet E o S' al K = evQuiet E o S al K := by
  unfold evQuiet
  split
  · rename_i c hop
    split
    · have ha : c.args.toList.map (opd S') = c.args.toList.map (opd S) := map_congr (fun x hx => h x (by rw [hop]; simp only [Op.operands]; exact operands_call hx))
      rw [ha, showArgs_congr ho]
    · exact evP_congr ho h K
  · exact evP_congr ho h K
theorem evQuiet_both {K : PV → Option OB → Option ρ} {r : ρ} (h : evQuiet E o S al K = some r) : ∃ v b, evQuiet E o S al (fun v b => some (v, b)) = some (v, b) ∧ K v b = some r := by
  have hp : ∀ {K : PV → Option OB → Option ρ}, evP E o S al K = some r → ∃ v b, evP E o S al (fun v b => some (v, b)) = some (v, b) ∧ K v b = some r := by
    intro K h
    rw [evP_both] at h
    obtain ⟨p, h1, h2⟩ := optK_some h
    exact ⟨p.1, p.2, h1, h2⟩
  unfold evQuiet at h ⊢
  split at h
  · rename_i c hop
    split at h
    · rename_i g hc
      simp only
      obtain ⟨as, h1, h⟩ := optK_some h
      obtain ⟨h2, h⟩ := cond_some h
      rw [(E.call g).param] at h
      split at h
      · rename_i p h3
        obtain ⟨h4, h⟩ := cond_some h
        rw [h1]
        simp only [optK, h2, cond_true]
        rw [(E.call g).param, h3]
        simp only [h4, cond_true]
        split at h
        · rename_i hl
          obtain ⟨h5, h⟩ := cond_some h
          simp only [hl, h5, cond_true]
          exact ⟨_, _, rfl, h⟩
        · rename_i b hl
          obtain ⟨h5, h⟩ := cond_some h
          simp only [hl, h5, cond_true]
          exact ⟨_, _, rfl, h⟩
        · cases h
      · cases h
    · exact hp h
  · exact hp h

/-! ### What an operation sees -/
def vis (base n : Nat) (bs : List Nat) (x : Nat) : Bool := Nat.blt x base || (Nat.ble (base + n) x || mem (x - base) bs)
theorem maskFrom_get (base n : Nat) (bs : List Nat) : ∀ (l : List OB) (i k : Nat), (maskFrom base n bs i l)[k]? = (l[k]?).map fun b => cond (vis base n bs (i + k)) b .dead
  | [], i, k => by simp [maskFrom]
  | b :: l, i, 0 => by simp [maskFrom, vis]
  | b :: l, i, k + 1 => by
    simp only [maskFrom, List.getElem?_cons_succ]
    rw [maskFrom_get base n bs l (i + 1) k, show i + 1 + k = i + (k + 1) from by omega]
theorem mask_ob (base n : Nat) (bs : List Nat) (x : Nat) : (S.mask base n bs).ob x = cond (vis base n bs x) (S.ob x) .dead := by
  simp only [St.ob, St.mask, List.getD, maskFrom_get, Nat.zero_add]
  cases S.objs[x]? <;> simp
theorem opd_mask (base n : Nat) (bs : List Nat) (x : Operand) : opd (S.mask base n bs) x = opd S x := by cases x <;> rfl
theorem add_objs {d : Option Tmp} {v : PV} {b : Option OB} (h : al < S.objs.length) : (S.add al d v b).objs = match b with | none => S.objs | some b => S.objs.set al b := by
  unfold St.add
  rw [put_objs]
  cases b with
  | none => rfl
  | some b => simp [St.new, show al + 1 - S.objs.length = 0 from by omega]
theorem add_slots {d : Option Tmp} {v : PV} {b : Option OB} : (S.add al d v b).slots = match d with | none => S.slots | some t => S.slots.set t v := by
  unfold St.add
  cases d <;> cases b <;> rfl
theorem add_touched {d : Option Tmp} {v : PV} {b : Option OB} : (S.add al d v b).touched = S.touched := by
  unfold St.add
  cases d <;> cases b <;> rfl
theorem add_len {d : Option Tmp} {v : PV} {b : Option OB} (h : al < S.objs.length) : (S.add al d v b).objs.length = S.objs.length := by
  rw [add_objs h]; cases b <;> simp
theorem St.ext {S S' : St} (h1 : S.slots = S'.slots) (h2 : S.objs = S'.objs) (h3 : S.touched = S'.touched) : S = S' := by
  cases S; cases S'; simp_all
theorem add_comm {al al' : Nat} {d d' : Option Tmp} {v v' : PV} {b b' : Option OB} (h : al < S.objs.length) (h' : al' < S.objs.length) (hne : al ≠ al') (hd : ∀ t, d = some t → d' ≠ some t) :
    (S.add al d v b).add al' d' v' b' = (S.add al' d' v' b').add al d v b := by
  apply St.ext
  · simp only [add_slots]
    cases d with
    | none => cases d' <;> rfl
    | some t =>
      cases d' with
      | none => rfl
      | some t' => exact List.set_comm _ _ (fun e => hd t rfl (by rw [e]))
  · have e1 := add_objs (S := S.add al d v b) (al := al') (d := d') (v := v') (b := b') (by rw [add_len h]; exact h')
    have e2 := add_objs (S := S.add al' d' v' b') (al := al) (d := d) (v := v) (b := b) (by rw [add_len h']; exact h)
    rw [e1, e2, add_objs h, add_objs h']
    cases b <;> cases b' <;> first | rfl | exact List.set_comm _ _ hne
  · simp only [add_touched]
theorem mask_add {d : Option Tmp} {v : PV} {b : Option OB} (h : al < S.objs.length) {base n : Nat} {bs : List Nat} (hv : vis base n bs al = false) : ((S.add al d v b).mask base n bs).objs = (S.mask base n bs).objs := by
  simp only [St.mask, add_objs h]
  cases b with
  | none => rfl
  | some b =>
    apply List.ext_getElem?
    intro k
    rw [maskFrom_get, maskFrom_get, List.getElem?_set]
    by_cases e : al = k
    · subst e
      simp [h, hv]
    · rw [if_neg e]
theorem slot_add {d : Option Tmp} {v : PV} {b : Option OB} {t : Nat} (h : d ≠ some t) : (S.add al d v b).slots.getD t .undef = S.slots.getD t .undef := by
  rw [add_slots]
  cases d with
  | none => rfl
  | some t' => simp only [List.getD, List.getElem?_set]; rw [if_neg (fun e => h (by rw [e]))]
theorem opd_add {d : Option Tmp} {v : PV} {b : Option OB} {x : Operand} (h : ∀ t, d = some t → x ≠ .tmp t) : opd (S.add al d v b) x = opd S x := by
  cases x with
  | tmp t => exact slot_add (fun e => h t e rfl)
  | _ => rfl

/-! ### The answer of an operation that changes nothing -/
def known (all : List Oper) (o : Oper) (S : St) : Bool :=
  match guardOf all o with
  | none => false
  | some none => true
  | some (some (g, _)) => match S.slots.getD g .undef with
    | .bool _ => true
    | .undef => true
    | _ => false
def Res (E : Env) (all : List Oper) (bf : List (List Nat)) (base j : Nat) (o : Oper) (S : St) (v : PV) (b : Option OB) : Prop :=
  known all o S = true ∧ ((wanted all o S = false ∧ v = .undef ∧ b = none) ∨
    (wanted all o S = true ∧ evQuiet E o (S.mask base all.length (bf.getD j [])) (base + j) (fun v b => some (v, b)) = some (v, b) ∧ okOid base all.length j (bf.getD j []) (v.oids ++ obOids b) = true))
theorem wantK_known {all : List Oper} {r : ρ} {yes no : St → Option ρ} (h : wantK all o S yes no = some r) : known all o S = true := by
  unfold wantK at h
  unfold known
  split at h
  · cases h
  · rename_i hg; rw [hg]
  · rename_i g want hg
    rw [hg]
    simp only
    split at h
    · rename_i b hb; rw [hb]
    · rename_i hb; rw [hb]
    · cases h
theorem wanted_known {c : Cx} {μ : Nat → Value} {a : Act} {w : World} {ops : Array Oper} (hsr : SR c S μ a w) (h : known ops.toList o S = true) : Region.wanted o (yielded ops a.tmps) = wanted ops.toList o S := by
  refine wanted_ok (r := ()) (yes := fun _ => some ()) (no := fun _ => some ()) hsr ?_
  unfold known at h
  unfold wantK
  split at h
  · cases h
  · rename_i hg; rw [hg]
  · rename_i g want hg
    rw [hg]
    simp only
    split at h
    · rename_i b hb; rw [hb]; cases b <;> cases want <;> rfl
    · rename_i hb; rw [hb]
    · cases h
def Indep (all : List Oper) (o p : Oper) : Prop :=
  (∀ d, p.dst = some d → d ∉ readsOf all o) ∧ (∀ d, o.dst = some d → d ∉ readsOf all p) ∧ (∀ d, o.dst = some d → p.dst ≠ some d)
theorem Indep.symm {all : List Oper} {o p : Oper} (h : Indep all o p) : Indep all p o := ⟨h.2.1, h.1, fun d hd hp => h.2.2 d hp hd⟩
theorem operand_read {all : List Oper} {t : Nat} (h : Operand.tmp t ∈ o.op.operands) : t ∈ readsOf all o := by
  simp only [readsOf, tmpsOf, List.mem_append, List.mem_filterMap]
  exact .inl ⟨.tmp t, by simpa using h, rfl⟩
theorem guard_read {all : List Oper} {g : Nat} {want : Bool} (h : guardOf all o = some (some (g, want))) : g ∈ readsOf all o := by
  simp only [readsOf, h, List.mem_append]
  exact .inr (by simp)
theorem Res_local {all : List Oper} {bf : List (List Nat)} {base i j : Nat} {p : Oper} {v v' : PV} {b b' : Option OB} (hp : ∀ d, p.dst = some d → d ∉ readsOf all o) (hl : base + j < S.objs.length)
    (hv : vis base all.length (bf.getD i []) (base + j) = false) : Res E all bf base i o (S.add (base + j) p.dst v' b') v b ↔ Res E all bf base i o S v b := by
  have h1 : known all o (S.add (base + j) p.dst v' b') = known all o S := by
    unfold known
    cases hg : guardOf all o with
    | none => rfl
    | some q =>
      cases q with
      | none => rfl
      | some q => simp only [slot_add (fun e => hp q.1 e (guard_read (want := q.2) hg))]
  have h2 : wanted all o (S.add (base + j) p.dst v' b') = wanted all o S := by
    unfold wanted
    cases hg : guardOf all o with
    | none => rfl
    | some q =>
      cases q with
      | none => rfl
      | some q => simp only [slot_add (fun e => hp q.1 e (guard_read (want := q.2) hg))]
  have h3 : ∀ K : PV → Option OB → Option (PV × Option OB), evQuiet E o ((S.add (base + j) p.dst v' b').mask base all.length (bf.getD i [])) (base + i) K = evQuiet E o (S.mask base all.length (bf.getD i [])) (base + i) K := fun K => by
    refine evQuiet_congr (mask_add hl hv) (fun x hx => ?_) K
    rw [opd_mask, opd_mask]
    exact opd_add (fun t ht e => hp t ht (operand_read (by rw [← e]; exact hx)))
  unfold Res
  rw [h1, h2, h3]

/-! ### What is still to be done -/
def Rest (E : Env) (all : List Oper) (bf : List (List Nat)) (base : Nat) (K : St → Option ρ) (r : ρ) (L : Nat → Bool) : Nat → List Oper → St → Prop
  | _, [], S => K S = some r
  | j, o :: l, S =>
    if L j then Rest E all bf base K r L (j + 1) l S
    else if isQuiet E o then ∃ v b, Res E all bf base j o S v b ∧ Rest E all bf base K r L (j + 1) l (S.add (base + j) o.dst v b)
    else wantK all o S (fun S => evF E o S (base + j) fun S' => cond (pastOK S' base all.length j) (evDraw E all bf base (j + 1) l S' K) none)
      (fun S => cond (pastOK (S.put o.dst .undef) base all.length j) (evDraw E all bf base (j + 1) l (S.put o.dst .undef) K) none) = some r
variable {all : List Oper} {bf : List (List Nat)} {base : Nat} {K : St → Option ρ} {r : ρ}
theorem put_undef_add (S : St) (al : Nat) (d : Option Tmp) : S.put d .undef = S.add al d .undef none := rfl
theorem rest_of_draw : ∀ (l : List Oper) (j : Nat) (S : St) (L : Nat → Bool), evDraw E all bf base j l S K = some r → (∀ k, j ≤ k → L k = false) → Rest E all bf base K r L j l S
  | [], j, S, L, h, hL => by simpa only [evDraw, Rest] using h
  | o :: l, j, S, L, h, hL => by
    simp only [evDraw] at h
    simp only [Rest, hL j (Nat.le_refl _), Bool.false_eq_true, if_false]
    by_cases hq : isQuiet E o = true
    · rw [if_pos hq]
      simp only [hq, cond_true] at h
      have hk := wantK_known h
      rcases wantK_some h with ⟨hw, h⟩ | ⟨hw, h⟩
      · obtain ⟨v, b, h1, h2⟩ := evQuiet_both h
        obtain ⟨h3, h2⟩ := cond_some h2
        exact ⟨v, b, ⟨hk, .inr ⟨hw, h1, h3⟩⟩, rest_of_draw l (j + 1) _ L h2 (fun k hk => hL k (by omega))⟩
      · exact ⟨.undef, none, ⟨hk, .inl ⟨hw, rfl, rfl⟩⟩, rest_of_draw l (j + 1) _ L h (fun k hk => hL k (by omega))⟩
    · rw [if_neg hq]
      simp only [hq, cond_false] at h
      exact h
theorem rest_congr : ∀ (l : List Oper) (j : Nat) (S : St) (L L' : Nat → Bool), (∀ k, j ≤ k → L k = L' k) → Rest E all bf base K r L j l S → Rest E all bf base K r L' j l S
  | [], j, S, L, L', hL, h => by simpa only [Rest] using h
  | o :: l, j, S, L, L', hL, h => by
    simp only [Rest] at h ⊢
    rw [← hL j (Nat.le_refl _)]
    split
    · rename_i hj
      rw [if_pos hj] at h
      exact rest_congr l (j + 1) S L L' (fun k hk => hL k (by omega)) h
    · rename_i hj
      rw [if_neg hj] at h
      split
      · rename_i hq
        rw [if_pos hq] at h
        obtain ⟨v, b, h1, h2⟩ := h
        exact ⟨v, b, h1, rest_congr l (j + 1) _ L L' (fun k hk => hL k (by omega)) h2⟩
      · rename_i hq
        rwa [if_neg hq] at h
def addL (L : Nat → Bool) (i : Nat) : Nat → Bool := fun k => Nat.beq k i || L k
theorem addL_same (L : Nat → Bool) (i : Nat) : addL L i i = true := by simp [addL]
theorem addL_other (L : Nat → Bool) {i k : Nat} (h : k ≠ i) : addL L i k = L k := by
  simp only [addL]
  have : Nat.beq k i = false := by rw [← Bool.not_eq_true]; simpa using h
  rw [this]; rfl
/-- an operation that may be next can be taken first -/
theorem Rest.pick {L : Nat → Bool} {i : Nat} {oi : Oper} (hi : all[i]? = some oi) (hLi : L i = false) (hq : isQuiet E oi = true) (hin : i < all.length) : ∀ (l : List Oper) (j : Nat) (S : St), all.drop j = l → j ≤ i → base + all.length ≤ S.objs.length →
    (∀ k, j ≤ k → k < i → L k = false → ∀ ok, all[k]? = some ok → isQuiet E ok = true ∧ Indep all oi ok ∧ vis base all.length (bf.getD i []) (base + k) = false ∧ vis base all.length (bf.getD k []) (base + i) = false) →
    Rest E all bf base K r L j l S → ∃ v b, Res E all bf base i oi S v b ∧ Rest E all bf base K r (addL L i) j l (S.add (base + i) oi.dst v b)
  | [], j, S, hl, hj, _, _, h => by
    have : all[i]? = none := by
      have e := congrArg List.length hl
      simp at e
      simp; omega
    rw [this] at hi; cases hi
  | o :: l, j, S, hl, hj, hob, hind, h => by
    have hjo : all[j]? = some o := by
      have := congrArg (·[0]?) hl
      simpa using this
    have hl' : all.drop (j + 1) = l := by
      have := congrArg List.tail hl
      simpa using this
    have hjn : j < all.length := (List.getElem?_eq_some_iff.1 hjo).1
    simp only [Rest] at h
    by_cases e : j = i
    · subst e
      rw [hjo] at hi
      cases hi
      rw [hLi, if_neg (by simp), if_pos hq] at h
      obtain ⟨v, b, h1, h2⟩ := h
      refine ⟨v, b, h1, ?_⟩
      simp only [Rest, addL_same, if_true]
      exact rest_congr l (j + 1) _ L _ (fun k hk => (addL_other L (by omega)).symm) h2
    · by_cases hLj : L j = true
      · rw [if_pos hLj] at h
        obtain ⟨v, b, h1, h2⟩ := Rest.pick hi hLi hq hin l (j + 1) S hl' (by omega) hob (fun k h1 h2 => hind k (by omega) h2) h
        refine ⟨v, b, h1, ?_⟩
        simp only [Rest, addL_other L e, hLj, if_true]
        exact h2
      · rw [if_neg hLj] at h
        have hLj' : L j = false := by simpa using hLj
        obtain ⟨g1, g2, g3, g4⟩ := hind j (Nat.le_refl _) (by omega) hLj' o hjo
        rw [if_pos g1] at h
        obtain ⟨vj, bj, h1, h2⟩ := h
        have hlen : base + j < S.objs.length := by omega
        have hlen2 : base + i < S.objs.length := by omega
        obtain ⟨v, b, h3, h4⟩ := Rest.pick hi hLi hq hin l (j + 1) _ hl' (by omega) (by rw [add_len hlen]; exact hob) (fun k h1 h2 => hind k (by omega) h2) h2
        rw [Res_local g2.1 hlen g3] at h3
        refine ⟨v, b, h3, ?_⟩
        simp only [Rest, addL_other L e, hLj, if_false]
        rw [if_pos g1]
        refine ⟨vj, bj, (Res_local g2.symm.1 hlen2 g4).2 h1, ?_⟩
        rw [add_comm hlen2 hlen (by omega) (fun t ht => g2.2.2 t ht)]
        exact h4
end
end Go.Vm
