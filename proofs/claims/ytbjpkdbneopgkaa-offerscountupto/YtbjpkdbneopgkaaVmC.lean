/- Vm, part 17: regions that draw their order. Own work. -/
import Derived.Test.YtbjpkdbneopgkaaVmE
set_option linter.unusedVariables false
set_option linter.unusedSimpArgs false
set_option linter.unusedSectionVars false
namespace Go.Vm
variable [MonotC]
open Go.RowKit
section
variable {E : Env} {S S' : St} {o : Oper} {al : Nat} {ρ : Type}
theorem ob_objs (h : S'.objs = S.objs) : S'.ob = S.ob := by funext x; simp only [St.ob, h]
theorem asData_congr (h : S'.ob = S.ob) (T : Ty) (x : PV) : asData S' T x = asData S T x := by
  unfold asData; rw [h]
theorem lenOf_congr (h : S'.ob = S.ob) (t : Option Nat) (x : PV) (K : PV → Option ρ) : lenOf E S' t x K = lenOf E S t x K := by
  unfold lenOf; rw [h]
theorem boundK_congr {x : Option Operand} (h : ∀ y, x = some y → opd S' y = opd S y) (d : Int) (K : Int → Option ρ) : evP.boundK S' x d K = evP.boundK S x d K := by
  unfold evP.boundK
  cases x with
  | none => rfl
  | some y => simp only [h y rfl]
theorem buildK_congr {d : TD} : ∀ (l : List (Nat × Operand)) (h : ∀ p ∈ l, opd S' p.2 = opd S p.2) (v : PV) (K : PV → Option ρ), evP.buildK S' d l v K = evP.buildK S d l v K
  | [], _, v, K => rfl
  | p :: l, h, v, K => by
    simp only [evP.buildK, h p (by simp)]
    split
    · rw [buildK_congr l (fun q hq => h q (by simp [hq]))]
    · rfl
theorem parts_congr {T : Ty} : ∀ (l : List (Nat × Operand)) (h : ∀ p ∈ l, opd S' p.2 = opd S p.2) (i : Nat), evP.implodeParts S' T i l = evP.implodeParts S T i l
  | [], _, i => rfl
  | p :: l, h, i => by
    simp only [evP.implodeParts, h p (by simp), parts_congr l (fun q hq => h q (by simp [hq]))]
theorem map_congr {l : List Operand} (h : ∀ x ∈ l, opd S' x = opd S x) : l.map (opd S') = l.map (opd S) := List.map_congr_left h
theorem evP_congr (hob : S'.ob = S.ob) (h : ∀ x ∈ o.op.operands, opd S' x = opd S x) (K : PV → Option OB → Option ρ) : evP E o S' al K = evP E o S al K := by
  cases hop : o.op <;> rw [hop] at h <;> simp only [Op.operands] at h <;> simp only [evP, hop]
  case move x => rw [h x (by simp)]
  case assign x => rw [h x (by simp)]
  case pick x y z => rw [h x (by simp), h y (by simp), h z (by simp)]
  case box t x => rw [h x (by simp)]
  case build t ps => simp only [buildK_congr ps.toList (fun p hp => h p.2 (by simp; exact ⟨p.1, by simpa using hp⟩))]
  case buildSlice t n ps => simp only [parts_congr ps.toList (fun p hp => h p.2 (by simp; exact ⟨p.1, by simpa using hp⟩))]
  case load t x => rw [h x (by simp), hob]
  case binOp op t x y e => rw [h x (by simp), h y (by simp)]
  case unOp op t x =>
    have := h x (by simp)
    cases op <;> first | rfl | (simp only; rw [this])
  case convert s t x => rw [h x (by simp)]
  case makeFunc f first caps =>
    have := map_congr (S := S) (S' := S') (l := caps.toList) (fun x hx => h x (by simp at hx; simp [hx]))
    cases f <;> first | rfl | (simp only; rw [this])
  case makeSlice t x y => rw [h x (by simp), h y (by simp)]
  case slice t x lo hi mx =>
    rw [h x (by simp), hob]
    simp only [boundK_congr (x := lo) (fun y hy => h y (by simp [hy])), boundK_congr (x := hi) (fun y hy => h y (by simp [hy]))]
  case fieldAddr s x f => rw [h x (by simp), hob]
  case indexAddr t x y => rw [h x (by simp), h y (by simp), hob]
  case index t x y => rw [h x (by simp), h y (by simp)]
  case extract x i => rw [h x (by simp)]
  case nilCheck x => rw [h x (by simp), hob]
  case makeMap t n =>
    cases n with
    | none => rfl
    | some n => have e := h n (by simp); simp only [e]
  case lookup t x y ok => rw [h x (by simp), h y (by simp)]; simp only [mapOf, hob]
  case range t x => rw [h x (by simp), hob]
  case entry x => rw [h x (by simp), hob]
  case call c =>
    have ha : c.args.toList.map (opd S') = c.args.toList.map (opd S) := map_congr (fun x hx => h x (by simp at hx; simp [Call.operands, hx]))
    cases hc : c.callee with
    | value f => rfl
    | invoke r m => rfl
    | builtin b =>
      rw [ha]
      cases b <;> try rfl
      case len =>
        simp only
        split
        · rename_i x hx
          rw [h x (by simp [Call.operands]; right; simp [← Array.mem_toList_iff, hx]), lenOf_congr hob]
        · rfl

/-! ### One answer, whatever follows -/
abbrev both (x : Option (PV × Option OB)) (K : PV → Option OB → Option ρ) : Option ρ := optK x fun p => K p.1 p.2
theorem both_cond (b : Bool) (x y : Option (PV × Option OB)) (K : PV → Option OB → Option ρ) : both (cond b x y) K = cond b (both x K) (both y K) := by cases b <;> rfl
theorem binSl_both (okS : Bool) (op : BinOp) (n : Nat) (K : PV → Option OB → Option ρ) : binSl okS op n (fun v => K v none) = both (binSl okS op n (fun v => some (v, none))) K := by
  unfold binSl
  cases op <;> simp only [both, optK] <;> (first | rfl | (cases okS <;> simp only [cond_true, cond_false] <;> cases Nat.ble n 0 <;> rfl))
theorem binAgg_both (q : Option Ty) (op : BinOp) (l m : List PV) (K : PV → Option OB → Option ρ) : binAgg q op l m (fun v => K v none) = both (binAgg q op l m (fun v => some (v, none))) K := by
  unfold binAgg
  cases q with
  | none => rfl
  | some T =>
    simp only
    cases (T.isAgg && (!T.deep && Nat.ble T.height 100))
    · rfl
    · simp only [cond_true]
      cases eqT T (.agg l) (.agg m) with
      | none => rfl
      | some b => cases op <;> rfl
theorem binInt_both (op : BinOp) (k k' : IntKind) (a b : Int) (K : PV → Option OB → Option ρ) : binInt op k k' a b (fun v => K v none) = both (binInt op k k' a b (fun v => some (v, none))) K := by
  unfold binInt
  split <;> (first | rfl | (rw [both_cond, both_cond]; rfl) | (rw [both_cond]; rfl))
theorem ifEq_both (c : Bool) (op : BinOp) (x y : PV) (K : PV → Option OB → Option ρ) : ifEq c op x y (fun v => K v none) = both (ifEq c op x y (fun v => some (v, none))) K := by
  unfold ifEq
  rw [both_cond]
  cases op <;> rfl
theorem bin_both (okB okS : Bool) (q : Option Ty) (op : BinOp) (x y : PV) (K : PV → Option OB → Option ρ) : bin okB okS q op x y (fun v => K v none) = both (bin okB okS q op x y (fun v => some (v, none))) K := by
  unfold bin
  split
  · exact binInt_both _ _ _ _ _ _
  · cases op <;> simp only [both, optK] <;> (first | rfl | (split <;> simp_all) | skip)
    all_goals (rename_i a b; by_cases hb : a.size + b.size < 4611686018427387904 <;> simp [hb])
  · cases op <;> simp only [both, optK] <;> (first | rfl | (cases okB <;> rfl))
  · exact binSl_both _ _ _ _
  · exact binAgg_both _ _ _ _ _
  · rfl
theorem foldMM_both (op : BinOp) : ∀ (l : List PV) (x : PV) (K : PV → Option OB → Option ρ), foldMM op x l (fun v => K v none) = both (foldMM op x l (fun v => some (v, none))) K
  | [], x, K => by cases x <;> rfl
  | y :: l, x, K => by
    by_cases hx : ∃ k a k' b, x = .int k a ∧ y = .int k' b
    · obtain ⟨k, a, k', b, rfl, rfl⟩ := hx
      simp only [foldMM]
      by_cases hk : k = k'
      · simp only [hk, if_true]; exact foldMM_both op l _ K
      · simp only [hk, if_false]; rfl
    · cases x <;> cases y <;> first | (exfalso; exact hx ⟨_, _, _, _, rfl, rfl⟩) | rfl | (simp only [foldMM]; rfl)
theorem buildK_both {d : TD} : ∀ (l : List (Nat × Operand)) (v : PV) (K : PV → Option OB → Option ρ), evP.buildK S d l v (fun v => K v none) = both (evP.buildK S d l v (fun v => some (v, none))) K
  | [], v, K => rfl
  | p :: l, v, K => by
    simp only [evP.buildK]
    split
    · rw [both_cond, buildK_both l]; rfl
    · rfl
theorem lenOf_both (t : Option Nat) (x : PV) (K : PV → Option OB → Option ρ) : lenOf E S t x (fun v => K v none) = both (lenOf E S t x (fun v => some (v, none))) K := by
  unfold lenOf
  repeat' split
  all_goals first | rfl | (rw [both_cond]; rfl) | (simp_all; done)
theorem boundK_both (x : Option Operand) (d : Int) (K : PV → Option OB → Option ρ) (f : Int → Option (PV × Option OB)) : evP.boundK S x d (fun i => both (f i) K) = both (evP.boundK S x d f) K := by
  unfold evP.boundK
  repeat' split
  all_goals first | rfl | (simp_all; done)
theorem evP_both (K : PV → Option OB → Option ρ) : evP E o S al K = both (evP E o S al (fun v b => some (v, b))) K := by
  cases hop : o.op <;> simp only [evP, hop] <;> try rfl
  case pick x y z => split <;> first | rfl | (rw [both_cond]; rfl)
  case box t x => split <;> first | rfl | (rw [both_cond]; rfl)
  case build t ps => split <;> first | rfl | (rw [both_cond, buildK_both]; rfl)
  case buildSlice t n ps => split <;> first | rfl | (rw [both_cond]; congr 1; cases evP.implodeParts S _ 0 ps.toList <;> first | rfl | (simp only [optK]; cases E.lit <;> rfl))
  case load t x =>
    repeat' split
    all_goals first | rfl | (rw [both_cond]; rfl) | (rw [both_cond]; congr 1; cases getT _ _ _ <;> first | rfl | (simp only [optK, both_cond]))
  case binOp op t x y e => rw [both_cond, ← ifEq_both, ← bin_both]
  case unOp op t x => cases op <;> first | rfl | (simp only; split <;> rfl)
  case convert s t x =>
    repeat' split
    all_goals rfl
  case alloc t => split <;> first | rfl | (rw [both_cond]; rfl)
  case makeFunc f first caps => cases f <;> first | rfl | (simp only; split <;> rfl)
  case makeSlice t x y => repeat' split
                          all_goals first | rfl | (rw [both_cond]; rfl) | (rw [both_cond, both_cond]; rfl)
  case slice t x lo hi mx =>
    cases mx <;> try rfl
    simp only
    split
    · split
      · rw [← boundK_both]; congr 1; funext l; rw [← boundK_both]; congr 1; funext h; rw [both_cond]; rfl
      · rfl
    · rw [← boundK_both]; congr 1; funext l; rw [← boundK_both]; congr 1; funext h; rw [both_cond]; rfl
    · split
      · rw [← boundK_both]; congr 1; funext l; rw [← boundK_both]; congr 1; funext h; rw [both_cond]; rfl
      · rfl
    · split
      · rw [← boundK_both]; congr 1; funext l; rw [← boundK_both]; congr 1; funext h; rw [both_cond]; rfl
      · rfl
    · split
      · rw [← boundK_both]; congr 1; funext l; rw [← boundK_both]; congr 1; funext h; rw [both_cond]; rfl
      · rfl
    · rfl
  case fieldAddr s x f =>
    repeat' split
    all_goals first | rfl | (rw [both_cond]; rfl)
  case indexAddr t x y =>
    repeat' split
    all_goals first | rfl | (rw [both_cond]; rfl)
  case index t x y =>
    repeat' split
    all_goals first | rfl | (rw [both_cond]; rfl)
  case extract x i =>
    repeat' split
    all_goals first | rfl | (rw [both_cond]; rfl)
  case nilCheck x =>
    repeat' split
    all_goals rfl
  case makeMap t n =>
    repeat' split
    all_goals rfl
  case lookup t x y ok =>
    split
    · rename_i T U hd
      cases mapOf S T U (opd S x) with
      | none => rfl
      | some c =>
        simp only [optK]
        cases implode T (opd S y) with
        | none => rfl
        | some k => cases ok <;> rfl
    · rfl
  case range t x =>
    repeat' split
    all_goals first | rfl | (rw [both_cond]; rfl)
  case entry x =>
    repeat' split
    all_goals first | rfl | (rw [both_cond]; congr 1; rename_i cur _; cases cur <;> rfl)
  case call c =>
    cases hc : c.callee with
    | value f => rfl
    | invoke r m => rfl
    | builtin b =>
      cases b <;> try rfl
      case len => simp only; split <;> first | rfl | exact lenOf_both _ _ K
      case cap => simp only; (repeat' split) <;> rfl
      case min => simp only; split <;> first | rfl | exact foldMM_both _ _ _ K
      case max => simp only; split <;> first | rfl | exact foldMM_both _ _ _ K

theorem showArgs_congr (h : S'.ob = S.ob) : ∀ (ms : List Mode) (vs : List PV), showArgs S' ms vs = showArgs S ms vs
  | [], vs => by simp only [showArgs]
  | m :: ms, [] => by cases m <;> rfl
  | m :: ms, v :: vs => by
    cases m <;> simp only [showArgs, showArgs_congr h ms vs, asData_congr h]
theorem operands_call {c : Call} {x : Operand} (h : x ∈ c.args.toList) : x ∈ c.operands := by
  simp only [Call.operands]
  split <;> simp at h ⊢ <;> simp [h]
theorem operands_callee {c : Call} {f : Operand} (h : c.callee = .value f) : f ∈ c.operands := by
  simp only [Call.operands, h]
  simp
theorem quietCallee_congr {c : Call} (h : ∀ x ∈ c.operands, opd S' x = opd S x) : quietCallee E S' c = quietCallee E S c := by
  unfold quietCallee
  cases hc : c.callee with
  | value f =>
    cases f with
    | tmp t =>
      have : S'.slots.getD t .undef = S.slots.getD t .undef := h (.tmp t) (by simp [Call.operands, hc])
      simp only [quietTmp, this]
    | _ => rfl
  | _ => rfl
theorem evQuiet_congr (ho : S'.ob = S.ob) (h : ∀ x ∈ o.op.operands, opd S' x = opd S x) (K : PV → Option OB → Option ρ) : evQuiet E o S' al K = evQuiet E o S al K := by
  unfold evQuiet
  split
  · rename_i c hop
    rw [quietCallee_congr (S := S) (fun x hx => h x (by rw [hop]; simpa only [Op.operands] using hx))]
    split
    · have ha : c.args.toList.map (opd S') = c.args.toList.map (opd S) := map_congr (fun x hx => h x (by rw [hop]; simp only [Op.operands]; exact operands_call hx))
      rw [ha, showArgs_congr ho]
    · exact evP_congr ho h K
  · exact evP_congr ho h K
theorem evQuiet_both {K : PV → Option OB → Option ρ} {r : ρ} (h : evQuiet E o S al K = some r) : ∃ v b, evQuiet E o S al (fun v b => some (v, b)) = some (v, b) ∧ K v b = some r := by
  have hp : ∀ {K : PV → Option OB → Option ρ}, evP E o S al K = some r → ∃ v b, evP E o S al (fun v b => some (v, b)) = some (v, b) ∧ K v b = some r := by
    intro K h
    rw [evP_both] at h
    obtain ⟨p, h1, h2⟩ := optK_some h
    exact ⟨p.1, p.2, h1, h2⟩
  unfold evQuiet at h ⊢
  split at h
  · rename_i c hop
    split at h
    · rename_i g hc
      simp only
      obtain ⟨as, h1, h⟩ := optK_some h
      obtain ⟨h2, h⟩ := cond_some h
      rw [(E.call g).param] at h
      split at h
      · rename_i p h3
        obtain ⟨h4, h⟩ := cond_some h
        rw [h1]
        simp only [optK, h2, cond_true]
        rw [(E.call g).param, h3]
        simp only [h4, cond_true]
        split at h
        · rename_i hl
          obtain ⟨h5, h⟩ := cond_some h
          simp only [hl, h5, cond_true]
          exact ⟨_, _, rfl, h⟩
        · rename_i b hl
          obtain ⟨h5, h⟩ := cond_some h
          simp only [hl, h5, cond_true]
          exact ⟨_, _, rfl, h⟩
        · cases h
      · cases h
    · exact hp h
  · exact hp h

/-! ### What an operation sees -/
def vis (base n : Nat) (bs : List Nat) (x : Nat) : Bool := Nat.blt x base || cond (Nat.ble (base + n) x) (mem n bs) (mem (x - base) bs)
theorem maskFrom_get (base n : Nat) (bs : List Nat) : ∀ (l : List OB) (i k : Nat), (maskFrom base n bs i l)[k]? = (l[k]?).map fun b => cond (vis base n bs (i + k)) b .dead
  | [], i, k => by simp [maskFrom]
  | b :: l, i, 0 => by simp [maskFrom, vis]
  | b :: l, i, k + 1 => by
    simp only [maskFrom, List.getElem?_cons_succ]
    rw [maskFrom_get base n bs l (i + 1) k, show i + 1 + k = i + (k + 1) from by omega]
theorem mask_ob (base n : Nat) (bs : List Nat) (x : Nat) : (S.mask base n bs).ob x = cond (vis base n bs x) (S.ob x) .dead := by
  simp only [St.ob, St.mask, List.getD, maskFrom_get, Nat.zero_add]
  cases S.objs[x]? <;> simp
theorem opd_mask (base n : Nat) (bs : List Nat) (x : Operand) : opd (S.mask base n bs) x = opd S x := by cases x <;> rfl
theorem add_objs {d : Option Tmp} {v : PV} {b : Option OB} (h : al < S.objs.length) : (S.add al d v b).objs = match b with | none => S.objs | some b => S.objs.set al b := by
  unfold St.add
  rw [put_objs]
  cases b with
  | none => rfl
  | some b => simp [St.new, show al + 1 - S.objs.length = 0 from by omega]
theorem add_slots {d : Option Tmp} {v : PV} {b : Option OB} : (S.add al d v b).slots = match d with | none => S.slots | some t => S.slots.set t v := by
  unfold St.add
  cases d <;> cases b <;> rfl
theorem add_touched {d : Option Tmp} {v : PV} {b : Option OB} : (S.add al d v b).touched = S.touched := by
  unfold St.add
  cases d <;> cases b <;> rfl
theorem add_len {d : Option Tmp} {v : PV} {b : Option OB} (h : al < S.objs.length) : (S.add al d v b).objs.length = S.objs.length := by
  rw [add_objs h]; cases b <;> simp
theorem St.ext {S S' : St} (h1 : S.slots = S'.slots) (h2 : S.objs = S'.objs) (h3 : S.touched = S'.touched) : S = S' := by
  cases S; cases S'; simp_all
theorem add_comm {al al' : Nat} {d d' : Option Tmp} {v v' : PV} {b b' : Option OB} (h : al < S.objs.length) (h' : al' < S.objs.length) (hne : al ≠ al') (hd : ∀ t, d = some t → d' ≠ some t) :
    (S.add al d v b).add al' d' v' b' = (S.add al' d' v' b').add al d v b := by
  apply St.ext
  · simp only [add_slots]
    cases d with
    | none => cases d' <;> rfl
    | some t =>
      cases d' with
      | none => rfl
      | some t' => exact List.set_comm _ _ (fun e => hd t rfl (by rw [e]))
  · have e1 := add_objs (S := S.add al d v b) (al := al') (d := d') (v := v') (b := b') (by rw [add_len h]; exact h')
    have e2 := add_objs (S := S.add al' d' v' b') (al := al) (d := d) (v := v) (b := b) (by rw [add_len h']; exact h)
    rw [e1, e2, add_objs h, add_objs h']
    cases b <;> cases b' <;> first | rfl | exact List.set_comm _ _ hne
  · simp only [add_touched]
theorem mask_add {d : Option Tmp} {v : PV} {b : Option OB} (h : al < S.objs.length) {base n : Nat} {bs : List Nat} (hv : vis base n bs al = false) : ((S.add al d v b).mask base n bs).objs = (S.mask base n bs).objs := by
  simp only [St.mask, add_objs h]
  cases b with
  | none => rfl
  | some b =>
    apply List.ext_getElem?
    intro k
    rw [maskFrom_get, maskFrom_get, List.getElem?_set]
    by_cases e : al = k
    · subst e
      simp [h, hv]
    · rw [if_neg e]
theorem slot_add {d : Option Tmp} {v : PV} {b : Option OB} {t : Nat} (h : d ≠ some t) : (S.add al d v b).slots.getD t .undef = S.slots.getD t .undef := by
  rw [add_slots]
  cases d with
  | none => rfl
  | some t' => simp only [List.getD, List.getElem?_set]; rw [if_neg (fun e => h (by rw [e]))]
theorem opd_add {d : Option Tmp} {v : PV} {b : Option OB} {x : Operand} (h : ∀ t, d = some t → x ≠ .tmp t) : opd (S.add al d v b) x = opd S x := by
  cases x with
  | tmp t => exact slot_add (fun e => h t e rfl)
  | _ => rfl

/-! ### The answer of an operation that changes nothing -/
def known (all : List Oper) (o : Oper) (S : St) : Bool :=
  match guardOf all o with
  | none => false
  | some none => true
  | some (some (g, _)) => match S.slots.getD g .undef with
    | .bool _ => true
    | .undef => true
    | _ => false
def Res (E : Env) (all : List Oper) (bf : List (List Nat)) (base j : Nat) (o : Oper) (S : St) (v : PV) (b : Option OB) : Prop :=
  known all o S = true ∧ ((wanted all o S = false ∧ v = .undef ∧ b = none) ∨
    (wanted all o S = true ∧ evQuiet E o (S.mask base all.length (seen E all bf j)) (base + j) (fun v b => some (v, b)) = some (v, b) ∧ okOid base all.length j (seen E all bf j) (v.oids ++ obOids b) = true ∧ boundL S.objs.length (v.oids ++ obOids b) = true ∧ (hasBig E bf 0 all = true → noItO b = true)))
theorem wantK_known {all : List Oper} {r : ρ} {yes no : St → Option ρ} (h : wantK all o S yes no = some r) : known all o S = true := by
  unfold wantK at h
  unfold known
  split at h
  · cases h
  · rename_i hg; rw [hg]
  · rename_i g want hg
    rw [hg]
    simp only
    split at h
    · rename_i b hb; rw [hb]
    · rename_i hb; rw [hb]
    · cases h
theorem wanted_known {c : Cx} {μ : Nat → Value} {a : Act} {w : World} {ops : Array Oper} (hsr : SR c S μ a w) (h : known ops.toList o S = true) : Region.wanted o (yielded ops a.tmps) = wanted ops.toList o S := by
  refine wanted_ok (r := ()) (yes := fun _ => some ()) (no := fun _ => some ()) hsr ?_
  unfold known at h
  unfold wantK
  split at h
  · cases h
  · rename_i hg; rw [hg]
  · rename_i g want hg
    rw [hg]
    simp only
    split at h
    · rename_i b hb; rw [hb]; cases b <;> cases want <;> rfl
    · rename_i hb; rw [hb]
    · cases h
def Indep (all : List Oper) (o p : Oper) : Prop :=
  (∀ d, p.dst = some d → d ∉ readsOf all o) ∧ (∀ d, o.dst = some d → d ∉ readsOf all p) ∧ (∀ d, o.dst = some d → p.dst ≠ some d)
theorem Indep.symm {all : List Oper} {o p : Oper} (h : Indep all o p) : Indep all p o := ⟨h.2.1, h.1, fun d hd hp => h.2.2 d hp hd⟩
theorem operand_read {all : List Oper} {t : Nat} (h : Operand.tmp t ∈ o.op.operands) : t ∈ readsOf all o := by
  simp only [readsOf, tmpsOf, List.mem_append, List.mem_filterMap]
  exact .inl ⟨.tmp t, by simpa using h, rfl⟩
theorem guard_read {all : List Oper} {g : Nat} {want : Bool} (h : guardOf all o = some (some (g, want))) : g ∈ readsOf all o := by
  simp only [readsOf, h, List.mem_append]
  exact .inr (by simp)
theorem Res_local {all : List Oper} {bf : List (List Nat)} {base i j : Nat} {p : Oper} {v v' : PV} {b b' : Option OB} (hp : ∀ d, p.dst = some d → d ∉ readsOf all o) (hl : base + j < S.objs.length)
    (hv : vis base all.length (seen E all bf i) (base + j) = false) : Res E all bf base i o (S.add (base + j) p.dst v' b') v b ↔ Res E all bf base i o S v b := by
  have h1 : known all o (S.add (base + j) p.dst v' b') = known all o S := by
    unfold known
    cases hg : guardOf all o with
    | none => rfl
    | some q =>
      cases q with
      | none => rfl
      | some q => simp only [slot_add (fun e => hp q.1 e (guard_read (want := q.2) hg))]
  have h2 : wanted all o (S.add (base + j) p.dst v' b') = wanted all o S := by
    unfold wanted
    cases hg : guardOf all o with
    | none => rfl
    | some q =>
      cases q with
      | none => rfl
      | some q => simp only [slot_add (fun e => hp q.1 e (guard_read (want := q.2) hg))]
  have h3 : ∀ K : PV → Option OB → Option (PV × Option OB), evQuiet E o ((S.add (base + j) p.dst v' b').mask base all.length (seen E all bf i)) (base + i) K = evQuiet E o (S.mask base all.length (seen E all bf i)) (base + i) K := fun K => by
    refine evQuiet_congr (ob_objs (mask_add hl hv)) (fun x hx => ?_) K
    rw [opd_mask, opd_mask]
    exact opd_add (fun t ht e => hp t ht (operand_read (by rw [← e]; exact hx)))
  unfold Res
  rw [h1, h2, h3, add_len hl]

/-! ### Stores, and operations on variables alone -/
def storeV (E : Env) (t : Nat) (pa px : PV) (ob : Nat → OB) : Option (Nat × OB) :=
  match E.td t with
  | some d => match pa with
    | .ptr o p => match ob o with
      | .box e v => cond ((!e.isB || decide (p = [1])) && (match e.off p with | some q => decide (q.2 = d) | none => false) && (d.fits px && px.plain)) (some (o, .box e (setPath v p px))) none
      | _ => none
    | .elo o i p => match ob o with
      | .row T xs => cond ((match T.off p with | some q => decide (TD.data q.2 = d) | none => false) && inR i xs.length) (optK (setT T p (rd T.dflt xs i) px) fun y => cond (d.fits px && px.plain) (some (o, .row T (xs.set i.toNat y))) none) none
      | _ => none
    | _ => none
  | none => none
theorem evF_store {t : Nat} {a x : Operand} (h : o.op = .store t a x) (K : St → Option ρ) : evF E o S al K = (storeV E t (opd S a) (opd S x) S.ob).bind fun p => K ((S.setOb p.1 p.2).put o.dst .undef) := by
  simp only [evF, h, storeV]
  cases E.td t with
  | none => rfl
  | some d =>
    simp only
    cases opd S a with
    | ptr ob p =>
      simp only
      cases S.ob ob with
      | box e v =>
        simp only
        cases ((!e.isB || decide (p = [1])) && (match e.off p with | some q => decide (q.2 = d) | none => false) && (d.fits (opd S x) && (opd S x).plain)) <;> rfl
      | _ => rfl
    | elo ob i p =>
      simp only
      cases S.ob ob with
      | row T xs =>
        simp only
        cases ((match T.off p with | some q => decide (TD.data q.2 = d) | none => false) && inR i xs.length)
        · rfl
        · simp only [cond_true]
          cases setT T p (rd T.dflt xs i) (opd S x) with
          | none => rfl
          | some y =>
            simp only [optK]
            cases (d.fits (opd S x) && (opd S x).plain) <;> rfl
      | _ => rfl
    | _ => rfl
/-- what a copy does -/
def copyV (E : Env) (as : List PV) (ts : List Nat) (S : St) : Option ((Nat × OB) × PV) :=
  match as, ts with
  | [s, x], t :: _ => match E.elem t with
    | some T => (asData S T x).bind fun ys => match s with
      | .sub ob l h => match S.ob ob with
        | .row U zs => (castL U T zs).bind fun xs => cond (Nat.ble (l.toNat + (h - l).toNat) xs.length) (some ((ob, .row T (cpy xs l.toNat (h - l).toNat ys)), .int .i64 (min (h - l).toNat ys.length : Nat))) none
        | _ => none
      | .row ob => match S.ob ob with
        | .row U zs => (castL U T zs).bind fun xs => some ((ob, .row T (cpy xs 0 xs.length ys)), .int .i64 (min xs.length ys.length : Nat))
        | _ => none
      | _ => none
    | none => none
  | _, _ => none
theorem evF_copy {c : Call} (h : o.op = .call c) (hc : c.callee = .builtin .copy) (K : St → Option ρ) : evF E o S al K = (copyV E (c.args.toList.map (opd S)) c.argTypes.toList S).bind fun p => K ((S.setOb p.1.1 p.1.2).put o.dst p.2) := by
  simp only [evF, h, hc, copyV]
  generalize c.args.toList.map (opd S) = as
  generalize c.argTypes.toList = ts
  rcases as with _ | ⟨s, _ | ⟨x, _ | _⟩⟩ <;> try rfl
  rcases ts with _ | ⟨t, ts⟩
  · rfl
  simp only
  cases E.elem t with
  | none => rfl
  | some T =>
    simp only
    cases asData S T x with
    | none => rfl
    | some ys =>
      simp only [optK, Option.bind_some]
      cases s with
      | sub ob l h =>
        simp only
        cases S.ob ob with
        | row U zs =>
          simp only
          cases castL U T zs with
          | none => rfl
          | some xs =>
            simp only [Option.bind_some]
            cases Nat.ble (l.toNat + (h - l).toNat) xs.length <;> rfl
        | _ => rfl
      | row ob =>
        simp only
        cases S.ob ob with
        | row U zs =>
          simp only
          cases castL U T zs <;> rfl
        | _ => rfl
      | _ => rfl
theorem copyV_congr {as : List PV} {ts : List Nat} (h : S'.ob = S.ob) : copyV E as ts S' = copyV E as ts S := by
  unfold copyV asData
  rw [h]
theorem copyV_some {as : List PV} {ts : List Nat} {p : (Nat × OB) × PV} (h : copyV E as ts S = some p) : ∃ T xs ys n, S.ob p.1.1 = .row T xs ∧ p.1.2 = .row T ys ∧ ys.length = xs.length ∧ p.2 = .int .i64 n := by
  unfold copyV at h
  split at h
  · split at h
    · obtain ⟨ys, _, h⟩ := Option.bind_eq_some_iff.1 h
      split at h
      · split at h
        · rename_i hob
          obtain ⟨xs, h1, h⟩ := Option.bind_eq_some_iff.1 h
          obtain ⟨e, h1⟩ := castL_some h1
          subst e; subst h1
          obtain ⟨h2, h⟩ := cond_some h
          cases h
          exact ⟨_, _, _, _, hob, rfl, cpy_len (by simpa using h2), rfl⟩
        · cases h
      · split at h
        · rename_i hob
          obtain ⟨xs, h1, h⟩ := Option.bind_eq_some_iff.1 h
          obtain ⟨e, h1⟩ := castL_some h1
          subst e; subst h1
          cases h
          exact ⟨_, _, _, _, hob, rfl, cpy_len (by omega), rfl⟩
        · cases h
      · cases h
    · cases h
  · cases h
theorem isStore0_some (h : isStore0 o = true) : ((∃ t a x, o.op = .store t a x) ∧ o.dst = none ∨ ∃ c, o.op = .call c ∧ c.callee = .builtin .copy) ∧ o.guard = none := by
  unfold isStore0 at h
  split at h
  · rename_i t a x hop
    simp only [Bool.and_eq_true] at h
    obtain ⟨h1, h2⟩ := h
    refine ⟨.inl ⟨⟨t, a, x, hop⟩, ?_⟩, ?_⟩
    · split at h1
      · assumption
      · cases h1
    · split at h2
      · assumption
      · cases h2
  · rename_i c hop
    simp only [Bool.and_eq_true] at h
    obtain ⟨h1, h2⟩ := h
    refine ⟨.inr ⟨c, hop, ?_⟩, ?_⟩
    · split at h1
      · assumption
      · cases h1
    · split at h2
      · assumption
      · cases h2
  · cases h
theorem isSt_some (h : isSt o = true) : ∃ t a x, o.op = .store t a x := by
  unfold isSt at h
  split at h
  · exact ⟨_, _, _, by assumption⟩
  · cases h
theorem store_not_quiet (h : isStore0 o = true) : isQuiet E o = false := by
  obtain ⟨⟨⟨t, a, x, hop⟩, _⟩ | ⟨c, hop, hc⟩, _⟩ := isStore0_some h
  · simp only [isQuiet, hop]
  · simp only [isQuiet, hop, hc]
theorem pure_quiet (h : isPureOp o = true) : isQuiet E o = true := by
  unfold isPureOp at h
  unfold isQuiet
  split at h <;> simp_all
theorem pure_not_store (h : isPureOp o = true) : isStore0 o = false := by
  unfold isPureOp at h
  unfold isStore0
  split at h <;> simp_all
/-- what a store, or a copy, does -/
def stV (E : Env) (o : Oper) (S : St) : Option ((Nat × OB) × PV) :=
  match o.op with
  | .store t a x => (storeV E t (opd S a) (opd S x) S.ob).map fun p => (p, .undef)
  | .call c => copyV E (c.args.toList.map (opd S)) c.argTypes.toList S
  | _ => none
/-- what a store does to the state -/
def StoreRes (E : Env) (o : Oper) (S S' : St) : Prop := isStore0 o = true ∧ ∃ p, stV E o S = some p ∧ S' = (S.setOb p.1.1 p.1.2).put o.dst p.2
theorem evF_stV (hs : isStore0 o = true) (K : St → Option ρ) : evF E o S al K = (stV E o S).bind fun p => K ((S.setOb p.1.1 p.1.2).put o.dst p.2) := by
  obtain ⟨⟨⟨t, a, x, hop⟩, hd⟩ | ⟨c, hop, hc⟩, _⟩ := isStore0_some hs
  · rw [evF_store hop]
    simp only [stV, hop]
    cases storeV E t (opd S a) (opd S x) S.ob <;> rfl
  · rw [evF_copy hop hc]
    simp only [stV, hop]
theorem StoreRes.evF {S' : St} (h : StoreRes E o S S') (K : St → Option ρ) : evF E o S al K = K S' := by
  obtain ⟨hs, p, hp, rfl⟩ := h
  rw [evF_stV hs, hp]
  rfl
theorem storeRes_of {r : ρ} {K : St → Option ρ} (hs : isStore0 o = true) (h : Vm.evF E o S al K = some r) : ∃ S', StoreRes E o S S' ∧ K S' = some r := by
  rw [evF_stV hs] at h
  obtain ⟨p, h1, h2⟩ := Option.bind_eq_some_iff.1 h
  exact ⟨_, ⟨hs, p, h1, rfl⟩, h2⟩
theorem stV_congr (ho : S'.ob = S.ob) (h : ∀ x ∈ o.op.operands, opd S' x = opd S x) : stV E o S' = stV E o S := by
  unfold stV
  split
  · rename_i t a x hop
    rw [h a (by rw [hop]; simp [Op.operands]), h x (by rw [hop]; simp [Op.operands]), ho]
  · rename_i c hop
    rw [copyV_congr ho]
    congr 1
    exact map_congr (fun x hx => h x (by rw [hop]; simp only [Op.operands]; exact operands_call hx))
  · rfl
/-- what kind of object this is -/
def OB.kind : OB → OB
  | .box d _ => .box d .undef
  | .row T xs => .row T (xs.map fun _ => T.dflt)
  | _ => .dead
theorem mask_kind (hk : ∀ i, (S'.ob i).kind = (S.ob i).kind) (base n : Nat) (bs : List Nat) (x : Nat) : ((S'.mask base n bs).ob x).kind = ((S.mask base n bs).ob x).kind := by
  rw [mask_ob, mask_ob]
  cases vis base n bs x
  · rfl
  · exact hk x
theorem fieldA_congr {t f : Nat} {a : Operand} (h : opd S' a = opd S a) (hk : ∀ i, (S'.ob i).kind = (S.ob i).kind) (hop : o.op = .fieldAddr t a f) (K : PV → Option OB → Option ρ) : evP E o S' al K = evP E o S al K := by
  simp only [evP, hop]
  rw [h]
  split
  · split
    · rfl
    · split
      · rfl
      · rename_i ob p _
        have := hk ob
        revert this
        cases S'.ob ob <;> cases S.ob ob <;> intro this <;> simp only [OB.kind] at this <;> first | rfl | (cases this; rfl) | (injection this with h1 h2; subst h1; rfl) | cases this
      · rename_i ob i p _
        have := hk ob
        revert this
        cases S'.ob ob <;> cases S.ob ob <;> intro this <;> simp only [OB.kind] at this <;> first | rfl | (cases this; rfl) | (injection this with h1 h2; subst h1; rfl) | cases this
      · rfl
  · rfl
theorem kind_row {T T' : Ty} {xs : List T.den} {ys : List T'.den} (h : (OB.row T xs).kind = (OB.row T' ys).kind) : T = T' ∧ xs.length = ys.length := by
  simp only [OB.kind] at h
  injection h with h1 h2
  subst h1
  have := congrArg List.length (eq_of_heq h2)
  rw [List.length_map, List.length_map] at this
  exact ⟨rfl, this⟩
theorem kind_cases {b b' : OB} (h : b'.kind = b.kind) : (∃ d v v', b = .box d v ∧ b' = .box d v') ∨ (∃ T xs ys, b = .row T xs ∧ b' = .row T ys ∧ List.length ys = List.length xs) ∨ ((∀ d v, b ≠ .box d v) ∧ (∀ T xs, b ≠ .row T xs) ∧ (∀ d v, b' ≠ .box d v) ∧ ∀ T xs, b' ≠ .row T xs) := by
  cases b <;> cases b'
  case box.box d v d' v' => simp only [OB.kind] at h; injection h with h1; subst h1; exact .inl ⟨_, _, _, rfl, rfl⟩
  case row.row T xs T' ys =>
    obtain ⟨h1, h2⟩ := kind_row h
    subst h1
    exact .inr (.inl ⟨_, _, _, rfl, rfl, h2⟩)
  all_goals first | (simp only [OB.kind] at h; cases h; done) | exact .inr (.inr ⟨by simp, by simp, by simp, by simp⟩)
theorem indexA_congr {t : Nat} {a x : Operand} (h : opd S' a = opd S a) (hx : opd S' x = opd S x) (hk : ∀ i, (S'.ob i).kind = (S.ob i).kind) (hop : o.op = .indexAddr t a x) (K : PV → Option OB → Option ρ) : evP E o S' al K = evP E o S al K := by
  simp only [evP, hop]
  rw [h, hx]
  split
  rotate_left
  · rfl
  split
  · rfl
  · rename_i ob _
    rcases kind_cases (hk ob) with ⟨d, v, v', e1, e2⟩ | ⟨T, xs, ys, e1, e2, e3⟩ | ⟨e1, e2, e3, e4⟩
    · rw [e1, e2]
    · rw [e1, e2]; simp only; rw [e3]
    · split
      · rename_i T xs e; exact absurd e (e4 T xs)
      · rename_i d v e; exact absurd e (e3 d v)
      · first
          | rfl
          | (split
             · rename_i T xs e; exact absurd e (e2 T xs)
             · rename_i d v e; exact absurd e (e1 d v)
             · rfl)
  · rename_i ob l hh _
    rcases kind_cases (hk ob) with ⟨d, v, v', e1, e2⟩ | ⟨T, xs, ys, e1, e2, e3⟩ | ⟨e1, e2, e3, e4⟩
    · rw [e1, e2]
    · rw [e1, e2]
    · split
      · rename_i T xs e; exact absurd e (e4 T xs)
      · first
          | rfl
          | (split
             · rename_i T xs e; exact absurd e (e2 T xs)
             · rfl)
  · rfl
theorem evP_pure_congr (hp : isPureOp o = true) (h : ∀ x ∈ o.op.operands, opd S' x = opd S x) (hk : ∀ i, (S'.ob i).kind = (S.ob i).kind) (K : PV → Option OB → Option ρ) : evP E o S' al K = evP E o S al K := by
  unfold isPureOp at hp
  split at hp
  · rename_i x hop
    simp only [evP, hop]
    rw [h x (by rw [hop]; simp [Op.operands])]
  · rename_i x hop
    simp only [evP, hop]
    rw [h x (by rw [hop]; simp [Op.operands])]
  · rename_i op t x y e hop
    simp only [evP, hop]
    rw [h x (by rw [hop]; simp [Op.operands]), h y (by rw [hop]; simp [Op.operands])]
  · rename_i a b x hop
    simp only [evP, hop]
    rw [h x (by rw [hop]; simp [Op.operands])]
  · rename_i t a f hop
    exact fieldA_congr (h a (by rw [hop]; simp [Op.operands])) hk hop K
  · rename_i t a x hop
    exact indexA_congr (h a (by rw [hop]; simp [Op.operands])) (h x (by rw [hop]; simp [Op.operands])) hk hop K
  · rename_i t ps hop
    simp only [evP, hop]
    simp only [buildK_congr ps.toList (fun p hp => h p.2 (by rw [hop]; simp only [Op.operands, List.mem_toArray, List.mem_map]; exact ⟨p, hp, rfl⟩))]
  · rename_i x i hop
    simp only [evP, hop]
    rw [h x (by rw [hop]; simp [Op.operands])]
  · rename_i c x y hop
    simp only [evP, hop]
    rw [h c (by rw [hop]; simp [Op.operands]), h x (by rw [hop]; simp [Op.operands]), h y (by rw [hop]; simp [Op.operands])]
  · cases hp
theorem evQuiet_pure (hp : isPureOp o = true) (K : PV → Option OB → Option ρ) : evQuiet E o S al K = evP E o S al K := by
  unfold isPureOp at hp
  unfold evQuiet
  split at hp <;> simp_all
theorem Res_pure {all : List Oper} {bf : List (List Nat)} {base i : Nat} {v : PV} {b : Option OB} (hp : isPureOp o = true) (hs : ∀ t ∈ readsOf all o, S'.slots.getD t .undef = S.slots.getD t .undef) (hlen : S'.objs.length = S.objs.length) (hk : ∀ i, (S'.ob i).kind = (S.ob i).kind) : Res E all bf base i o S' v b ↔ Res E all bf base i o S v b := by
  have h1 : known all o S' = known all o S := by
    unfold known
    split
    · rfl
    · rfl
    · rename_i g want hg
      rw [hs g (guard_read hg)]
  have h2 : wanted all o S' = wanted all o S := by
    unfold wanted
    split
    · rename_i g want hg
      rw [hs g (guard_read hg)]
    · rfl
  have h3 : ∀ K : PV → Option OB → Option (PV × Option OB), evQuiet E o (S'.mask base all.length (seen E all bf i)) (base + i) K = evQuiet E o (S.mask base all.length (seen E all bf i)) (base + i) K := fun K => by
    rw [evQuiet_pure hp, evQuiet_pure hp]
    refine evP_pure_congr hp (fun x hx => ?_) (fun j => mask_kind hk _ _ _ j) K
    rw [opd_mask, opd_mask]
    cases x with
    | tmp t => exact hs t (operand_read hx)
    | _ => rfl
  unfold Res
  rw [h1, h2, h3, hlen]
theorem StoreRes.slots {S' : St} (h : StoreRes E o S S') {t : Nat} (ht : o.dst ≠ some t) : S'.slots.getD t .undef = S.slots.getD t .undef := by
  obtain ⟨_, p, _, rfl⟩ := h
  exact slot_add (al := 0) (b := none) ht
theorem StoreRes.len {S' : St} (h : StoreRes E o S S') : S'.objs.length = S.objs.length := by
  obtain ⟨_, p, _, rfl⟩ := h
  rw [put_objs]
  simp [St.setOb]
theorem storeV_len {t : Nat} {pa px : PV} {p : Nat × OB} (h : storeV E t pa px S.ob = some p) : (S.ob p.1).alive = true := by
  unfold storeV at h
  split at h
  · split at h
    · rename_i o q
      split at h
      · rename_i e v hob
        obtain ⟨_, h⟩ := cond_some h
        cases h
        simp only; rw [hob]; rfl
      · cases h
    · rename_i o i q
      split at h
      · rename_i T xs hob
        obtain ⟨_, h⟩ := cond_some h
        obtain ⟨y, _, h⟩ := optK_some h
        obtain ⟨_, h⟩ := cond_some h
        cases h
        simp only; rw [hob]; rfl
      · cases h
    · cases h
  · cases h
theorem storeV_kind {t : Nat} {pa px : PV} {p : Nat × OB} (h : storeV E t pa px S.ob = some p) : p.2.kind = (S.ob p.1).kind := by
  unfold storeV at h
  split at h
  · split at h
    · rename_i o q
      split at h
      · rename_i e v hob
        obtain ⟨_, h⟩ := cond_some h
        cases h
        simp only; rw [hob]; rfl
      · cases h
    · rename_i o i q
      split at h
      · rename_i T xs hob
        obtain ⟨_, h⟩ := cond_some h
        obtain ⟨y, _, h⟩ := optK_some h
        obtain ⟨_, h⟩ := cond_some h
        cases h
        simp only; rw [hob]; simp only [OB.kind]; rw [List.map_const', List.map_const', List.length_set]
      · cases h
    · cases h
  · cases h
theorem stV_kind {p : (Nat × OB) × PV} (h : stV E o S = some p) : p.1.2.kind = (S.ob p.1.1).kind := by
  unfold stV at h
  split at h
  · obtain ⟨q, h1, rfl⟩ := Option.map_eq_some_iff.1 h
    exact storeV_kind h1
  · obtain ⟨T, xs, ys, n, h1, h2, h3, _⟩ := copyV_some h
    rw [h1, h2]
    simp only [OB.kind]
    rw [List.map_const', List.map_const', h3]
  · cases h
theorem StoreRes.kind {S' : St} (h : StoreRes E o S S') (i : Nat) : (S'.ob i).kind = (S.ob i).kind := by
  obtain ⟨_, p, hp, rfl⟩ := h
  simp only [St.ob, put_objs]
  simp only [St.setOb, List.getD, List.getElem?_set]
  split
  · rename_i e
    subst e
    have := stV_kind hp
    split
    · simpa [St.ob, List.getD] using this
    · rename_i hlt
      rw [List.getElem?_eq_none (by omega)]
  · rfl
theorem put_swap {S : St} {i : Nat} {b : OB} {d d' : Option Tmp} {v v' : PV} (hd : ∀ t, d = some t → d' ≠ some t) : (((S.put d v).setOb i b).put d' v') = ((S.setOb i b).put d' v').put d v := by
  cases d with
  | none => rfl
  | some t => cases d' with
    | none => rfl
    | some t' =>
      refine St.ext ?_ rfl rfl
      exact List.set_comm _ _ (fun e => hd t rfl (by rw [e]))
/-- a store, behind something in a variable that it does not read -/
theorem StoreRes.put {S' : St} {d : Option Tmp} {v : PV} (h : StoreRes E o S S') (hr : ∀ t, d = some t → Operand.tmp t ∉ o.op.operands) (hd : ∀ t, d = some t → o.dst ≠ some t) : StoreRes E o (S.put d v) (S'.put d v) := by
  obtain ⟨hs, p, hp, rfl⟩ := h
  have ho : ∀ y ∈ o.op.operands, opd (S.put d v) y = opd S y := fun y hy => opd_add (al := 0) (b := none) (fun t ht e => hr t ht (by rw [← e]; exact hy))
  have e3 : (S.put d v).ob = S.ob := by cases d <;> rfl
  exact ⟨hs, p, by rw [stV_congr e3 ho]; exact hp, (put_swap hd).symm⟩
theorem StoreRes.unput {S2 : St} {d : Option Tmp} {v : PV} (h : StoreRes E o (S.put d v) S2) (hr : ∀ t, d = some t → Operand.tmp t ∉ o.op.operands) (hd : ∀ t, d = some t → o.dst ≠ some t) : ∃ S', StoreRes E o S S' ∧ S2 = S'.put d v := by
  obtain ⟨hs, p, hp, rfl⟩ := h
  have ho : ∀ y ∈ o.op.operands, opd (S.put d v) y = opd S y := fun y hy => opd_add (al := 0) (b := none) (fun t ht e => hr t ht (by rw [← e]; exact hy))
  have e3 : (S.put d v).ob = S.ob := by cases d <;> rfl
  rw [stV_congr e3 ho] at hp
  exact ⟨_, ⟨hs, p, hp, rfl⟩, put_swap hd⟩
theorem ifEq_none {c : Bool} {op : BinOp} {x y : PV} {v : PV} {b : Option OB} (h : ifEq c op x y (fun v => some (v, (none : Option OB))) = some (v, b)) : b = none := by
  unfold ifEq at h
  obtain ⟨_, h⟩ := cond_some h
  split at h
  · cases h; rfl
  · cases h; rfl
  · cases h
theorem bin_none {okB okS : Bool} {q : Option Ty} {op : BinOp} {x y : PV} {v : PV} {b : Option OB} (h : bin okB okS q op x y (fun v => some (v, (none : Option OB))) = some (v, b)) : b = none := by
  have h2 := (bin_both okB okS q op x y (fun v _ => some (v, (none : Option OB)))).symm.trans h
  obtain ⟨p, _, h3⟩ := optK_some h2
  cases h3; rfl
theorem buildK_none {d : TD} {v' : PV} {b : Option OB} : ∀ (l : List (Nat × Operand)) (v : PV), evP.buildK S d l v (fun v => some (v, (none : Option OB))) = some (v', b) → b = none
  | [], v, h => by
    simp only [evP.buildK] at h
    cases h; rfl
  | p :: l, v, h => by
    simp only [evP.buildK] at h
    split at h
    · obtain ⟨_, h⟩ := cond_some h
      exact buildK_none l _ h
    · cases h
/-- .. makes no object -/
theorem pure_none {v : PV} {b : Option OB} (hp : isPureOp o = true) (h : evP E o S al (fun v b => some (v, b)) = some (v, b)) : b = none := by
  unfold isPureOp at hp
  split at hp
  · rename_i x hop
    simp only [evP, hop] at h
    cases h; rfl
  · rename_i x hop
    simp only [evP, hop] at h
    cases h; rfl
  · rename_i op t x y e hop
    simp only [evP, hop] at h
    cases hi : E.isIf t
    · rw [hi] at h; exact bin_none h
    · rw [hi] at h; exact ifEq_none h
  · rename_i a b' x hop
    simp only [evP, hop] at h
    repeat (first | (cases h; rfl) | (split at h))
    all_goals (first | (cases h; rfl) | simp at h)
  · rename_i t a f hop
    simp only [evP, hop] at h
    repeat' split at h
    all_goals (first | (obtain ⟨_, h⟩ := cond_some h; cases h; rfl) | cases h)
  · rename_i t a f hop
    simp only [evP, hop] at h
    repeat' split at h
    all_goals (first | (obtain ⟨_, h⟩ := cond_some h; cases h; rfl) | cases h)
  · rename_i t ps hop
    simp only [evP, hop] at h
    split at h
    · obtain ⟨_, h⟩ := cond_some h
      exact buildK_none _ _ h
    · cases h
  · rename_i x i hop
    simp only [evP, hop] at h
    split at h
    · obtain ⟨_, h⟩ := cond_some h
      cases h; rfl
    · cases h
  · rename_i c x y hop
    simp only [evP, hop] at h
    split at h
    · rename_i q _
      cases q <;> (cases h; rfl)
    · cases h
  · cases hp
theorem Res_pure_none {all : List Oper} {bf : List (List Nat)} {base i : Nat} {v : PV} {b : Option OB} (hp : isPureOp o = true) (h : Res E all bf base i o S v b) : b = none := by
  rcases h.2 with ⟨_, _, h⟩ | ⟨_, h, _⟩
  · exact h
  · rw [evQuiet_pure hp] at h
    exact pure_none hp h

/-! ### A load, before or behind a store into another object -/
theorem storeV_apart {t : Nat} {pa px pl : PV} {ob : Nat → OB} {p : Nat × OB} (h : storeV E t pa px ob = some p) (ha : apartPV pl pa = true) :
    (∃ x q, pl = .ptr x q ∧ x ≠ p.1) ∨ (∃ x i q, pl = .elo x i q ∧ x ≠ p.1) ∨ (∃ T x, pl = .el T x) ∨ pl = .undef := by
  have hp : (∃ q, pa = .ptr p.1 q) ∨ ∃ i q, pa = .elo p.1 i q := by
    unfold storeV at h
    split at h
    · split at h
      · rename_i o q
        split at h
        · obtain ⟨_, h⟩ := cond_some h
          cases h
          exact .inl ⟨_, rfl⟩
        · cases h
      · rename_i o i q
        split at h
        · obtain ⟨_, h⟩ := cond_some h
          obtain ⟨y, _, h⟩ := optK_some h
          obtain ⟨_, h⟩ := cond_some h
          cases h
          exact .inr ⟨_, _, rfl⟩
        · cases h
      · cases h
    · cases h
  cases pl <;> simp only [apartPV, Bool.false_eq_true] at ha
  case ptr x q =>
    rcases hp with ⟨q', e⟩ | ⟨i', q', e⟩ <;> subst e <;> simp only [Bool.not_eq_true'] at ha
    · exact .inl ⟨_, _, rfl, fun e => by rw [e, Nat.beq_refl] at ha; cases ha⟩
    · exact .inl ⟨_, _, rfl, fun e => by rw [e, Nat.beq_refl] at ha; cases ha⟩
  case elo x i q =>
    rcases hp with ⟨q', e⟩ | ⟨i', q', e⟩ <;> subst e <;> simp only [Bool.not_eq_true'] at ha
    · exact .inr (.inl ⟨_, _, _, rfl, fun e => by rw [e, Nat.beq_refl] at ha; cases ha⟩)
    · exact .inr (.inl ⟨_, _, _, rfl, fun e => by rw [e, Nat.beq_refl] at ha; cases ha⟩)
  case el T x => exact .inr (.inr (.inl ⟨_, _, rfl⟩))
  case undef => exact .inr (.inr (.inr rfl))
theorem loadAt_some {t : Nat} (h : loadAt o = some t) : ∃ ty, o.op = .load ty (.tmp t) := by
  unfold loadAt at h
  split at h
  · split at h
    · cases h; exact ⟨_, by assumption⟩
    · cases h
  · cases h
theorem load_quiet {t : Nat} (h : loadAt o = some t) : isQuiet E o = true := by
  obtain ⟨ty, hop⟩ := loadAt_some h
  simp only [isQuiet, hop]
theorem load_not_pure {t : Nat} (h : loadAt o = some t) : isPureOp o = false := by
  obtain ⟨ty, hop⟩ := loadAt_some h
  simp only [isPureOp, hop]
theorem load_read {all : List Oper} {t : Nat} (h : loadAt o = some t) : t ∈ readsOf all o := by
  obtain ⟨ty, hop⟩ := loadAt_some h
  exact operand_read (by rw [hop]; simp [Op.operands])
theorem Res_apart {S' : St} {all : List Oper} {bf : List (List Nat)} {base i : Nat} {v : PV} {b : Option OB} {t : Nat} {os : Oper} (hl : loadAt o = some t) (h : StoreRes E os S S')
    (hst : isSt os = true) (hap : ∀ ty a x, os.op = .store ty a x → apartPV (S.slots.getD t .undef) (opd S a) = true) : Res E all bf base i o S' v b ↔ Res E all bf base i o S v b := by
  obtain ⟨t', a, x, hop⟩ := isSt_some hst
  obtain ⟨hs, q, hq, rfl⟩ := h
  have hdn : os.dst = none := by
    rcases (isStore0_some hs).1 with ⟨_, h⟩ | ⟨c, h, _⟩
    · exact h
    · rw [hop] at h; cases h
  simp only [stV, hop] at hq
  obtain ⟨p, hp, rfl⟩ := Option.map_eq_some_iff.1 hq
  rw [hdn]
  rw [show ((S.setOb p.1 p.2).put none PV.undef) = S.setOb p.1 p.2 from rfl]
  obtain ⟨ty, hl⟩ := loadAt_some hl
  have hap := storeV_apart hp (hap _ _ _ hop)
  have h1 : known all o (S.setOb p.1 p.2) = known all o S := rfl
  have h2 : wanted all o (S.setOb p.1 p.2) = wanted all o S := rfl
  have hob : ∀ y, y ≠ p.1 → ∀ bs : List Nat, ((S.setOb p.1 p.2).mask base all.length bs).ob y = (S.mask base all.length bs).ob y := fun y hy bs => by
    rw [mask_ob, mask_ob]
    have : (S.setOb p.1 p.2).ob y = S.ob y := by
      simp only [St.ob, St.setOb, List.getD]
      rw [List.getElem?_set_ne (fun e => hy e.symm)]
    rw [this]
  have h3 : ∀ K : PV → Option OB → Option (PV × Option OB), evQuiet E o ((S.setOb p.1 p.2).mask base all.length (seen E all bf i)) (base + i) K = evQuiet E o (S.mask base all.length (seen E all bf i)) (base + i) K := fun K => by
    have e : ∀ bs, opd ((S.setOb p.1 p.2).mask base all.length bs) (.tmp t) = S.slots.getD t .undef := fun _ => rfl
    have e' : ∀ bs, opd (S.mask base all.length bs) (.tmp t) = S.slots.getD t .undef := fun _ => rfl
    simp only [evQuiet, hl, evP, e, e']
    rcases hap with ⟨y, q, e1, hy⟩ | ⟨y, j, q, e1, hy⟩ | ⟨T, y, e1⟩ | e1
    · rw [e1]; simp only [hob y hy]
    · rw [e1]; simp only [hob y hy]
    · rw [e1]
    · rw [e1]
  have h4 : (S.setOb p.1 p.2).objs.length = S.objs.length := by simp [St.setOb]
  unfold Res
  rw [h1, h2, h3, h4]
theorem load_none {t : Nat} {v : PV} {b : Option OB} (hl : loadAt o = some t) (h : evQuiet E o S al (fun v b => some (v, b)) = some (v, b)) : b = none := by
  obtain ⟨ty, hl⟩ := loadAt_some hl
  simp only [evQuiet, hl, evP] at h
  repeat' split at h
  all_goals (first | cases h | (obtain ⟨_, h⟩ := cond_some h; first | (cases h; rfl) | (obtain ⟨_, _, h⟩ := optK_some h; obtain ⟨_, h⟩ := cond_some h; cases h; rfl)))
theorem Res_load_none {all : List Oper} {bf : List (List Nat)} {base i t : Nat} {v : PV} {b : Option OB} (hl : loadAt o = some t) (h : Res E all bf base i o S v b) : b = none := by
  rcases h.2 with ⟨_, _, h⟩ | ⟨_, h, _⟩
  · exact h
  · exact load_none hl h
theorem keptFrom_spec {a i j : Nat} : ∀ (l : List Oper) (m : Nat), keptFrom a i j m l = true → ∀ k q, l[k]? = some q → i ≤ m + k → m + k < j → q.dst ≠ some a
  | [], m, h, k, q, hk, _, _ => by simp at hk
  | p :: l, m, h, k, q, hk, h1, h2 => by
    simp only [keptFrom, Bool.and_eq_true] at h
    cases k with
    | zero =>
      simp only [List.getElem?_cons_zero, Option.some.injEq] at hk
      subst hk
      have : (Nat.ble i m && Nat.blt m j) = true := by simp; omega
      rw [this, cond_true] at h
      intro e
      rw [e] at h
      simp at h
    | succ k =>
      simp only [List.getElem?_cons_succ] at hk
      exact keptFrom_spec l (m + 1) h.2 k q hk (by omega) (by omega)
/-- loads (before the m-th) that store i need not wait for, and that are still to be done, are of other objects -/
def Late (all : List Oper) (bf : List (List Nat)) (L : Nat → Bool) (i m : Nat) (o : Oper) (S : St) : Prop :=
  ∀ k p t, k < m → L k = false → k ∉ bf.getD i [] → all[k]? = some p → loadAt p = some t → ∀ ty a x, o.op = .store ty a x → apartPV (S.slots.getD t .undef) (opd S a) = true
theorem lateOK_spec {bs : List Nat} {j : Nat} {a : PV} : ∀ (l : List Oper) (i : Nat), lateOK bs j a S i l = true → ∀ k p t, l[k]? = some p → i + k < j → i + k ∉ bs → loadAt p = some t → apartPV (S.slots.getD t .undef) a = true
  | [], i, h, k, p, t, hk, _, _, _ => by simp at hk
  | q :: l, i, h, k, p, t, hk, h1, h2, h3 => by
    simp only [lateOK, Bool.and_eq_true] at h
    cases k with
    | zero =>
      simp only [List.getElem?_cons_zero, Option.some.injEq] at hk
      subst hk
      have e1 : Nat.blt i j = true := by simp; omega
      have e2 : mem i bs = false := by
        rw [← Bool.not_eq_true, mem_iff]
        exact h2
      rw [e1, e2, cond_true, cond_false, h3] at h
      exact h.1
    | succ k =>
      simp only [List.getElem?_cons_succ] at hk
      exact lateOK_spec l (i + 1) h.2 k p t hk (by omega) (by rwa [show i + 1 + k = i + (k + 1) from by omega]) h3
theorem late_of {all : List Oper} {bf : List (List Nat)} {L : Nat → Bool} {j : Nat} (h : lateAll E all bf j o S = true) : Late all bf L j j o S := by
  intro k p t h1 _ h2 h3 h4 ty a x hop
  simp only [lateAll, hop] at h
  exact lateOK_spec all 0 h k p t h3 (by simpa using h1) (by simpa using h2) h4
/-! ### A call that makes objects -/
theorem reach_congr {M M' : St} (h : M'.ob = M.ob) : ∀ (n : Nat) (l acc : List Nat), reach M' n l acc = reach M n l acc
  | 0, l, acc => rfl
  | n + 1, [], acc => rfl
  | n + 1, o :: l, acc => by simp only [reach, h, reach_congr h n]
theorem allAlive_congr {M M' : St} (h : M'.ob = M.ob) : ∀ l : List Nat, allAlive M' l = allAlive M l
  | [] => rfl
  | o :: l => by simp only [allAlive, h, allAlive_congr h l]
theorem closed_go_congr {M M' : St} (h : M'.ob = M.ob) (acc : List Nat) : ∀ l : List Nat, closed.go M' acc l = closed.go M acc l
  | [] => rfl
  | o :: l => by simp only [closed.go, h, closed_go_congr h acc l]
theorem bigArgs_congr {c : Call} {g : Nat} {M M' : St} (hop : o.op = .call c) (h : ∀ x ∈ o.op.operands, opd M' x = opd M x) : bigArgs c g M' = bigArgs c g M := by
  unfold bigArgs
  split
  · rename_i f hc
    have ha : c.args.toList.map (opd M') = c.args.toList.map (opd M) := map_congr (fun x hx => h x (by rw [hop]; simp only [Op.operands]; exact operands_call hx))
    rw [ha, h f (by rw [hop]; simp only [Op.operands]; exact operands_callee hc)]
  · rfl
theorem bigK_congr {M M' : St} (ho : M'.objs = M.objs) (h : ∀ x ∈ o.op.operands, opd M' x = opd M x) (K : PV → List OB → Option ρ) : bigK E o M' K = bigK E o M K := by
  have hob := ob_objs ho
  unfold bigK
  split
  · rename_i c hop
    split
    · rename_i g hc
      rw [bigArgs_congr hop h]
      split
      · simp only [reach_congr hob, allAlive_congr hob, closed, closed_go_congr hob, hob, ho]
      · rfl
    · rfl
  · rfl
theorem bigK_both {M : St} {K : PV → List OB → Option ρ} {r : ρ} (h : bigK E o M K = some r) : ∃ v new, bigK E o M (fun v new => some (v, new)) = some (v, new) ∧ K v new = some r := by
  unfold bigK at h ⊢
  split at h
  · rename_i c hop
    split at h
    · rename_i g hc
      split at h
      · obtain ⟨h1, h⟩ := cond_some h
        rw [(E.call g).param] at h
        split at h
        · rename_i p h3
          simp only
          rw [h1, cond_true, (E.call g).param, h3]
          exact ⟨_, _, rfl, h⟩
        · cases h
      · cases h
    · cases h
  · cases h
def BigRes (E : Env) (all : List Oper) (bf : List (List Nat)) (base j : Nat) (o : Oper) (S : St) (v : PV) (new : List OB) : Prop :=
  bigK E o (S.mask base all.length (seen E all bf j)) (fun v new => some (v, new)) = some (v, new) ∧ okOid base all.length j (seen E all bf j) (v.oids ++ oidsO new) = true ∧ boundL (S.objs.length + new.length) (v.oids ++ oidsO new) = true
theorem big_call {bf : List (List Nat)} {j : Nat} (h : isBig E bf j o = true) : ∃ c g, o.op = .call c ∧ bigFn E c = some g ∧ o.guard = none ∧ (E.call g).quiet = false ∧ (E.call g).modes = [] ∧ (laterFree j (bf.drop (j + 1)) || !allBefore (bf.getD j []) j) = true := by
  unfold isBig at h
  split at h
  · rename_i c hop
    split at h
    · rename_i g hc
      simp only [Bool.and_eq_true, Bool.not_eq_true', List.isEmpty_iff] at h
      refine ⟨c, g, hop, hc, ?_, h.2.1, h.2.2.1, h.2.2.2⟩
      have := h.1
      cases hg : o.guard with
      | none => rfl
      | some q => rw [hg] at this; cases this
    · cases h
  · cases h
theorem bigFn_some {c : Call} {g : Nat} (h : bigFn E c = some g) : ∃ f, c.callee = .value f ∧ (f = .func g ∨ ∃ t, f = .tmp t ∧ E.fv t = some g) := by
  unfold bigFn at h
  split at h
  · rename_i f hc
    split at h
    · cases h; exact ⟨_, hc, .inl rfl⟩
    · exact ⟨_, hc, .inr ⟨_, rfl, h⟩⟩
    · cases h
  · cases h
theorem big_not_quiet {bf : List (List Nat)} {j : Nat} (h : isBig E bf j o = true) : isQuiet E o = false := by
  obtain ⟨c, g, h1, h2, _, h3, _⟩ := big_call h
  obtain ⟨f, hc, rfl | ⟨t, rfl, ht⟩⟩ := bigFn_some h2
  · simp only [isQuiet, h1, hc, h3]
  · simp only [isQuiet, h1, hc, ht, h3]
theorem big_not_store {bf : List (List Nat)} {j : Nat} (h : isBig E bf j o = true) : isStore0 o = false := by
  obtain ⟨c, g, h1, h2, _⟩ := big_call h
  obtain ⟨f, hc, _⟩ := bigFn_some h2
  simp only [isStore0, h1, hc, Bool.false_and]
theorem store_not_big {bf : List (List Nat)} {j : Nat} (h : isStore0 o = true) : isBig E bf j o = false := by
  cases hb : isBig E bf j o
  · rfl
  · rw [big_not_store hb] at h; cases h
theorem app_objs {d : Option Tmp} {v : PV} {new : List OB} : (S.app d v new).objs = S.objs ++ new := by unfold St.app; rw [put_objs]
theorem app_slots {d : Option Tmp} {v : PV} {new : List OB} : (S.app d v new).slots = match d with | none => S.slots | some t => S.slots.set t v := by
  unfold St.app
  cases d <;> rfl
theorem app_touched {d : Option Tmp} {v : PV} {new : List OB} : (S.app d v new).touched = S.touched := by
  unfold St.app
  cases d <;> rfl
theorem slot_app {d : Option Tmp} {v : PV} {new : List OB} {t : Nat} (h : d ≠ some t) : (S.app d v new).slots.getD t .undef = S.slots.getD t .undef := by
  rw [app_slots]
  cases d with
  | none => rfl
  | some t' => simp only [List.getD, List.getElem?_set]; rw [if_neg (fun e => h (by rw [e]))]
theorem opd_app {d : Option Tmp} {v : PV} {new : List OB} {x : Operand} (h : ∀ t, d = some t → x ≠ .tmp t) : opd (S.app d v new) x = opd S x := by
  cases x with
  | tmp t => exact slot_app (fun e => h t e rfl)
  | _ => rfl
theorem seesTop_spec {bf : List (List Nat)} {bs : List Nat} {i : Nat} : ∀ (l : List Oper) (k : Nat), seesTop E bf bs i k l = true → ∀ m p, l[m]? = some p → isBig E bf (k + m) p = true → (k + m < i → k + m ∈ bs) ∧ (i < k + m → i ∈ bf.getD (k + m) [])
  | [], k, h, m, p, hm, _ => by simp at hm
  | q :: l, k, h, m, p, hm, h2 => by
    simp only [seesTop, Bool.and_eq_true] at h
    cases m with
    | zero =>
      simp only [List.getElem?_cons_zero, Option.some.injEq] at hm
      subst hm
      have h0 := h.1
      rw [show isBig E bf k q = true from by simpa using h2, cond_true] at h0
      simp only [Nat.add_zero]
      refine ⟨fun h1 => ?_, fun h1 => ?_⟩
      · rw [show Nat.blt k i = true from by simpa using h1, cond_true, mem_iff] at h0
        exact h0
      · rw [show Nat.blt k i = false from by rw [← Bool.not_eq_true]; simp; omega, cond_false, Bool.or_eq_true, mem_iff] at h0
        rcases h0 with h0 | h0
        · have : k = i := by simpa using h0
          omega
        · exact h0
    | succ m =>
      simp only [List.getElem?_cons_succ] at hm
      have := seesTop_spec l (k + 1) h.2 m p hm (by rwa [show k + 1 + m = k + (m + 1) from by omega])
      rwa [show k + 1 + m = k + (m + 1) from by omega] at this
theorem top_hidden {all : List Oper} {bf : List (List Nat)} {i j : Nat} {p : Oper} (hj : all[j]? = some p) (hb : isBig E bf j p = true) (hji : j < i) (hi : i < all.length) (hn : j ∉ bf.getD i []) (hbf : ∀ x ∈ bf.getD i [], x < i) : mem all.length (seen E all bf i) = false := by
  unfold seen
  cases hs : seesTop E bf (bf.getD i []) i 0 all
  · rw [cond_false, ← Bool.not_eq_true, mem_iff]
    intro h
    have := hbf _ h
    omega
  · have := (seesTop_spec all 0 hs j p hj (by simpa using hb)).1 (by omega)
    exact absurd (by simpa using this) hn
/-- .. from what need not stand before a call further down -/
theorem top_hidden2 {all : List Oper} {bf : List (List Nat)} {i j : Nat} {p : Oper} (hj : all[j]? = some p) (hb : isBig E bf j p = true) (hij : i < j) (hi : i < all.length) (hn : i ∉ bf.getD j []) (hbf : ∀ x ∈ bf.getD i [], x < i) : mem all.length (seen E all bf i) = false := by
  unfold seen
  cases hs : seesTop E bf (bf.getD i []) i 0 all
  · rw [cond_false, ← Bool.not_eq_true, mem_iff]
    intro h
    have := hbf _ h
    omega
  · have := (seesTop_spec all 0 hs j p hj (by simpa using hb)).2 (by omega)
    exact absurd (by simpa using this) hn
theorem mem_seen {all : List Oper} {bf : List (List Nat)} {i k : Nat} (hk : k < all.length) : mem k (seen E all bf i) = true ↔ k ∈ bf.getD i [] := by
  unfold seen
  cases seesTop E bf (bf.getD i []) i 0 all
  · rw [cond_false, mem_iff]
  · rw [cond_true, mem_iff, List.mem_cons]
    constructor
    · rintro (h | h)
      · omega
      · exact h
    · exact .inr
theorem vis_in {all : List Oper} {bf : List (List Nat)} {base i k : Nat} (hk : k < all.length) : vis base all.length (seen E all bf i) (base + k) = true ↔ k ∈ bf.getD i [] := by
  have h1 : Nat.blt (base + k) base = false := by rw [← Bool.not_eq_true]; simp
  have h2 : Nat.ble (base + all.length) (base + k) = false := by rw [← Bool.not_eq_true]; simp; omega
  unfold vis
  rw [h1, h2, Bool.false_or, cond_false, Nat.add_sub_cancel_left, mem_seen hk]
theorem Res_app {all : List Oper} {bf : List (List Nat)} {base i : Nat} {p : Oper} {v v' : PV} {b : Option OB} {new : List OB} (hp : ∀ d, p.dst = some d → d ∉ readsOf all o) (hl : base + all.length ≤ S.objs.length) (hi : i < all.length)
    (ht : mem all.length (seen E all bf i) = false) (h : Res E all bf base i o (S.app p.dst v' new) v b) : Res E all bf base i o S v b := by
  have h1 : known all o (S.app p.dst v' new) = known all o S := by
    unfold known
    cases hg : guardOf all o with
    | none => rfl
    | some q =>
      cases q with
      | none => rfl
      | some q => simp only [slot_app (fun e => hp q.1 e (guard_read (want := q.2) hg))]
  have h2 : wanted all o (S.app p.dst v' new) = wanted all o S := by
    unfold wanted
    cases hg : guardOf all o with
    | none => rfl
    | some q =>
      cases q with
      | none => rfl
      | some q => simp only [slot_app (fun e => hp q.1 e (guard_read (want := q.2) hg))]
  have hv : ∀ x, vis base all.length (seen E all bf i) x = true → x < S.objs.length := fun x hx => by
    unfold vis at hx
    rcases Nat.lt_or_ge x (base + all.length) with h | h
    · omega
    · have h3 : Nat.blt x base = false := by rw [← Bool.not_eq_true]; simp; omega
      have h4 : Nat.ble (base + all.length) x = true := by simpa using h
      rw [h3, h4, ht] at hx
      cases hx
  have hob : ((S.app p.dst v' new).mask base all.length (seen E all bf i)).ob = (S.mask base all.length (seen E all bf i)).ob := by
    funext x
    rw [mask_ob, mask_ob]
    cases hx : vis base all.length (seen E all bf i) x
    · rfl
    · simp only [cond_true, St.ob, app_objs, List.getD]
      rw [List.getElem?_append_left (hv x hx)]
  have h3 : ∀ K : PV → Option OB → Option (PV × Option OB), evQuiet E o ((S.app p.dst v' new).mask base all.length (seen E all bf i)) (base + i) K = evQuiet E o (S.mask base all.length (seen E all bf i)) (base + i) K := fun K => by
    refine evQuiet_congr hob (fun x hx => ?_) K
    rw [opd_mask, opd_mask]
    exact opd_app (fun t ht e => hp t ht (operand_read (by rw [← e]; exact hx)))
  unfold Res at h ⊢
  rw [h1, h2, h3] at h
  refine ⟨h.1, h.2.imp id fun ⟨g1, g2, g3, g4, g5⟩ => ⟨g1, g2, g3, ?_, g5⟩⟩
  rw [boundL_iff]
  intro x hx
  have hok : ∀ (l : List Nat), okOid base all.length i (seen E all bf i) l = true → ∀ x ∈ l, vis base all.length (seen E all bf i) x = true ∨ x = base + i := by
    intro l
    induction l with
    | nil => intro _ x hx; cases hx
    | cons y l ih =>
      intro h x hx
      simp only [okOid, Bool.and_eq_true] at h
      rcases List.mem_cons.1 hx with rfl | hx
      · have h := h.1
        unfold vis
        simp only [Bool.or_eq_true] at h ⊢
        rcases h with h | h | h
        · exact .inl (.inl h)
        · exact .inr (by simpa using h)
        · exact .inl (.inr h)
      · exact ih h.2 x hx
  rcases hok _ g3 x hx with h | h
  · exact hv x h
  · omega
theorem Res_app2 {all : List Oper} {bf : List (List Nat)} {base i : Nat} {p : Oper} {v v' : PV} {b : Option OB} {new : List OB} (hp : ∀ d, p.dst = some d → d ∉ readsOf all o) (hl : base + all.length ≤ S.objs.length) (hi : i < all.length)
    (ht : mem all.length (seen E all bf i) = false) (h : Res E all bf base i o S v b) : Res E all bf base i o (S.app p.dst v' new) v b := by
  have h1 : known all o (S.app p.dst v' new) = known all o S := by
    unfold known
    cases hg : guardOf all o with
    | none => rfl
    | some q =>
      cases q with
      | none => rfl
      | some q => simp only [slot_app (fun e => hp q.1 e (guard_read (want := q.2) hg))]
  have h2 : wanted all o (S.app p.dst v' new) = wanted all o S := by
    unfold wanted
    cases hg : guardOf all o with
    | none => rfl
    | some q =>
      cases q with
      | none => rfl
      | some q => simp only [slot_app (fun e => hp q.1 e (guard_read (want := q.2) hg))]
  have hv : ∀ x, vis base all.length (seen E all bf i) x = true → x < S.objs.length := fun x hx => by
    unfold vis at hx
    rcases Nat.lt_or_ge x (base + all.length) with h | h
    · omega
    · have h3 : Nat.blt x base = false := by rw [← Bool.not_eq_true]; simp; omega
      have h4 : Nat.ble (base + all.length) x = true := by simpa using h
      rw [h3, h4, ht] at hx
      cases hx
  have hob : ((S.app p.dst v' new).mask base all.length (seen E all bf i)).ob = (S.mask base all.length (seen E all bf i)).ob := by
    funext x
    rw [mask_ob, mask_ob]
    cases hx : vis base all.length (seen E all bf i) x
    · rfl
    · simp only [cond_true, St.ob, app_objs, List.getD]
      rw [List.getElem?_append_left (hv x hx)]
  have h3 : ∀ K : PV → Option OB → Option (PV × Option OB), evQuiet E o ((S.app p.dst v' new).mask base all.length (seen E all bf i)) (base + i) K = evQuiet E o (S.mask base all.length (seen E all bf i)) (base + i) K := fun K => by
    refine evQuiet_congr hob (fun x hx => ?_) K
    rw [opd_mask, opd_mask]
    exact opd_app (fun t ht e => hp t ht (operand_read (by rw [← e]; exact hx)))
  unfold Res at h ⊢
  rw [h1, h2, h3]
  refine ⟨h.1, h.2.imp id fun ⟨g1, g2, g3, g4, g5⟩ => ⟨g1, g2, g3, ?_, g5⟩⟩
  rw [boundL_iff] at g4 ⊢
  intro x hx
  have := g4 x hx
  rw [app_objs, List.length_append]
  omega
theorem add_app_comm {al : Nat} {d d' : Option Tmp} {v v' : PV} {b' : Option OB} {new : List OB} (h : al < S.objs.length) (hd : ∀ t, d = some t → d' ≠ some t) :
    (S.app d v new).add al d' v' b' = (S.add al d' v' b').app d v new := by
  have h' : al < (S.app d v new).objs.length := by rw [app_objs, List.length_append]; omega
  apply St.ext
  · simp only [add_slots, app_slots]
    cases d with
    | none => cases d' <;> rfl
    | some t =>
      cases d' with
      | none => rfl
      | some t' => exact List.set_comm _ _ (fun e => hd t rfl (by rw [e]))
  · rw [add_objs h', app_objs, app_objs, add_objs h]
    cases b' with
    | none => rfl
    | some b => exact List.set_append_left _ _ h
  · simp only [add_touched, app_touched]
theorem BigRes_add {all : List Oper} {bf : List (List Nat)} {base i j : Nat} {p : Oper} {v v' : PV} {b' : Option OB} {new : List OB} (hp : ∀ d, p.dst = some d → d ∉ readsOf all o) (hl : base + i < S.objs.length)
    (hv : vis base all.length (seen E all bf j) (base + i) = false) : BigRes E all bf base j o (S.add (base + i) p.dst v' b') v new ↔ BigRes E all bf base j o S v new := by
  have h3 : ∀ K : PV → List OB → Option (PV × List OB), bigK E o ((S.add (base + i) p.dst v' b').mask base all.length (seen E all bf j)) K = bigK E o (S.mask base all.length (seen E all bf j)) K := fun K => by
    refine bigK_congr (mask_add hl hv) (fun x hx => ?_) K
    rw [opd_mask, opd_mask]
    exact opd_add (fun t ht e => hp t ht (operand_read (by rw [← e]; exact hx)))
  unfold BigRes
  rw [h3, add_len hl]
/-! ### An append, before or behind operations on variables, or at addresses of boxes -/
def appV (E : Env) (as : List PV) (ts : List Nat) (S : St) : Option (Option Nat × OB) :=
  match as, ts with
  | [s, x], t :: t2 :: _ => match E.elem t with
    | some T => match E.elem t2 with
      | some _ => (asData S T x).bind fun ys => match s with
        | .nil => cond (decide (ys.length ≤ 4294967296)) (some (none, .row T ys)) none
        | .row ob => match S.ob ob with
          | .row U zs => (castL U T zs).bind fun xs => cond (decide (xs.length + ys.length ≤ 4294967296)) (some (some ob, .row T (xs ++ ys))) none
          | _ => none
        | _ => none
      | none => none
    | none => none
  | _, _ => none
def appSt (S : St) (al : Nat) (d : Option Tmp) (p : Option Nat × OB) : St := ((match p.1 with | none => S | some ob => S.setOb ob .dead).new al p.2).put d (.row al)
theorem isApp_some {bf : List (List Nat)} {j : Nat} (h : isApp E bf j o = true) : ∃ c t t2 ts, o.op = .call c ∧ c.callee = .builtin .append ∧ o.guard = none ∧ c.argTypes.toList = t :: t2 :: ts ∧ isZeros (E.td t2) = false ∧ isStrD (E.td t2) = false := by
  unfold isApp at h
  split at h
  · rename_i c hop
    simp only [Bool.and_eq_true] at h
    obtain ⟨h1, h2, h3, _⟩ := h
    split at h3
    · rename_i t t2 ts hts
      simp only [Bool.and_eq_true, Bool.not_eq_true'] at h3
      refine ⟨c, t, t2, ts, hop, ?_, ?_, hts, h3.1, h3.2⟩
      · split at h1
        · assumption
        · cases h1
      · split at h2
        · assumption
        · cases h2
    · cases h3
  · cases h
theorem app_not_quiet {bf : List (List Nat)} {j : Nat} (h : isApp E bf j o = true) : isQuiet E o = false := by
  obtain ⟨c, _, _, _, hop, hc, _⟩ := isApp_some h
  simp only [isQuiet, hop, hc]
theorem app_not_store {bf : List (List Nat)} {j : Nat} (h : isApp E bf j o = true) : isStore0 o = false := by
  obtain ⟨c, _, _, _, hop, hc, _⟩ := isApp_some h
  simp only [isStore0, hop, hc, Bool.false_and]
theorem app_not_big {bf bf' : List (List Nat)} {j j' : Nat} (h : isApp E bf j o = true) : isBig E bf' j' o = false := by
  obtain ⟨c, _, _, _, hop, hc, _⟩ := isApp_some h
  simp only [isBig, hop, bigFn, hc]
theorem evF_app {bf : List (List Nat)} {j : Nat} (h : isApp E bf j o = true) {c : Call} (hop : o.op = .call c) (K : St → Option ρ) : evF E o S al K = (appV E (c.args.toList.map (opd S)) c.argTypes.toList S).bind fun p => cond (S.fresh al) (K (appSt S al o.dst p)) none := by
  obtain ⟨c', t, t2, ts, hop', hc, _, hts, hz, hs⟩ := isApp_some h
  rw [hop] at hop'
  cases hop'
  simp only [evF, hop, hc, appV, hts]
  generalize c.args.toList.map (opd S) = as
  rcases as with _ | ⟨s, _ | ⟨x, _ | _⟩⟩ <;> try rfl
  simp only
  cases E.elem t with
  | none => rfl
  | some T =>
    simp only [hz, hs, cond_false]
    cases E.elem t2 with
    | none => rfl
    | some T2 =>
      simp only
      cases asData S T x with
      | none => rfl
      | some ys =>
        simp only [optK, Option.bind_some]
        cases s with
        | nil =>
          simp only
          cases decide (ys.length ≤ 4294967296) <;> rfl
        | row ob =>
          simp only
          cases S.ob ob with
          | row U zs =>
            simp only
            cases castL U T zs with
            | none => rfl
            | some xs =>
              simp only [Option.bind_some]
              cases decide (xs.length + ys.length ≤ 4294967296) <;> cases S.fresh al <;> rfl
          | _ => rfl
        | _ => rfl
theorem appV_congr {as : List PV} {ts : List Nat} (h : S'.ob = S.ob) : appV E as ts S' = appV E as ts S := by
  unfold appV asData
  rw [h]
theorem appV_some {as : List PV} {ts : List Nat} {p : Option Nat × OB} (h : appV E as ts S = some p) : (∃ T ys, p.2 = .row T ys) ∧ (p.1 = none ∨ ∃ ob U zs, p.1 = some ob ∧ S.ob ob = .row U zs) := by
  unfold appV at h
  split at h
  · split at h
    · split at h
      · obtain ⟨ys, _, h⟩ := Option.bind_eq_some_iff.1 h
        split at h
        · obtain ⟨_, h⟩ := cond_some h
          cases h
          exact ⟨⟨_, _, rfl⟩, .inl rfl⟩
        · split at h
          · rename_i hob
            obtain ⟨xs, _, h⟩ := Option.bind_eq_some_iff.1 h
            obtain ⟨_, h⟩ := cond_some h
            cases h
            exact ⟨⟨_, _, rfl⟩, .inr ⟨_, _, _, rfl, hob⟩⟩
          · cases h
        · cases h
      · cases h
    · cases h
  · cases h
/-- what an append does to the state -/
def AppRes (E : Env) (o : Oper) (S : St) (al : Nat) (S' : St) : Prop := ∃ c p, o.op = .call c ∧ appV E (c.args.toList.map (opd S)) c.argTypes.toList S = some p ∧ S' = appSt S al o.dst p
theorem AppRes.evF {S' : St} {bf : List (List Nat)} {j : Nat} (h : AppRes E o S al S') (ha : isApp E bf j o = true) (hf : S.fresh al = true) (K : St → Option ρ) : Vm.evF E o S al K = K S' := by
  obtain ⟨c, p, hop, hp, rfl⟩ := h
  rw [evF_app ha hop, hp, Option.bind_some, hf]
  rfl
theorem appRes_of {r : ρ} {K : St → Option ρ} {bf : List (List Nat)} {j : Nat} (ha : isApp E bf j o = true) (h : Vm.evF E o S al K = some r) : ∃ S', AppRes E o S al S' ∧ K S' = some r := by
  obtain ⟨c, _, _, _, hop, _⟩ := isApp_some ha
  rw [evF_app ha hop] at h
  obtain ⟨p, h1, h2⟩ := Option.bind_eq_some_iff.1 h
  obtain ⟨_, h2⟩ := cond_some h2
  exact ⟨_, ⟨c, p, hop, h1, rfl⟩, h2⟩
theorem appSt_slots {d : Option Tmp} {p : Option Nat × OB} : (appSt S al d p).slots = match d with | none => S.slots | some t => S.slots.set t (.row al) := by
  unfold appSt
  rcases p with ⟨_ | ob, b⟩ <;> cases d <;> rfl
theorem appSt_objs {d : Option Tmp} {p : Option Nat × OB} (h : al < S.objs.length) : (appSt S al d p).objs = (match p.1 with | none => S.objs | some ob => S.objs.set ob .dead).set al p.2 := by
  unfold appSt
  rw [put_objs]
  rcases p with ⟨_ | ob, b⟩
  · simp [St.new, show al + 1 - S.objs.length = 0 from by omega]
  · simp [St.new, St.setOb, show al + 1 - S.objs.length = 0 from by omega]
theorem appSt_len {d : Option Tmp} {p : Option Nat × OB} (h : al < S.objs.length) : (appSt S al d p).objs.length = S.objs.length := by
  rw [appSt_objs h]
  rcases p with ⟨_ | ob, b⟩ <;> simp
theorem appSt_put {d d' : Option Tmp} {v : PV} {p : Option Nat × OB} (hd : ∀ t, d = some t → d' ≠ some t) : appSt (S.put d v) al d' p = (appSt S al d' p).put d v := by
  cases d with
  | none => rfl
  | some t => cases d' with
    | none => rcases p with ⟨_ | ob, b⟩ <;> rfl
    | some t' =>
      have e : (S.slots.set t v).set t' (.row al) = (S.slots.set t' (.row al)).set t v := List.set_comm _ _ (fun e => hd t rfl (by rw [e]))
      rcases p with ⟨_ | ob, b⟩ <;> exact St.ext e rfl rfl
theorem AppRes.unput {S2 : St} {d : Option Tmp} {v : PV} (h : AppRes E o (S.put d v) al S2) (hr : ∀ t, d = some t → Operand.tmp t ∉ o.op.operands) (hd : ∀ t, d = some t → o.dst ≠ some t) : ∃ S', AppRes E o S al S' ∧ S2 = S'.put d v := by
  obtain ⟨c, p, hop, hp, rfl⟩ := h
  have ho : ∀ y ∈ o.op.operands, opd (S.put d v) y = opd S y := fun y hy => opd_add (al := 0) (b := none) (fun t ht e => hr t ht (by rw [← e]; exact hy))
  have e3 : (S.put d v).ob = S.ob := by cases d <;> rfl
  have e4 : c.args.toList.map (opd (S.put d v)) = c.args.toList.map (opd S) := map_congr (fun x hx => ho x (by rw [hop]; simp only [Op.operands]; exact operands_call hx))
  rw [e4, appV_congr e3] at hp
  exact ⟨_, ⟨c, p, hop, hp, rfl⟩, appSt_put hd⟩
theorem AppRes.len {S' : St} (h : AppRes E o S al S') (hal : al < S.objs.length) : S'.objs.length = S.objs.length := by
  obtain ⟨c, p, hop, hp, rfl⟩ := h
  exact appSt_len hal
theorem AppRes.slot {S' : St} (h : AppRes E o S al S') {t : Nat} (ht : o.dst ≠ some t) : S'.slots.getD t .undef = S.slots.getD t .undef := by
  obtain ⟨c, p, hop, hp, rfl⟩ := h
  rw [appSt_slots]
  cases hd : o.dst with
  | none => rfl
  | some t' =>
    simp only [List.getD]
    rw [List.getElem?_set_ne (fun e => ht (by rw [hd, e]))]
theorem AppRes.box {S' : St} (h : AppRes E o S al S') (hal : al < S.objs.length) (hdead : S.ob al = .dead) {x : Nat} {d : TD} {v : PV} (hx : S.ob x = .box d v) : S'.ob x = .box d v := by
  obtain ⟨c, p, hop, hp, rfl⟩ := h
  have h1 : al ≠ x := fun e => by rw [← e, hdead] at hx; cases hx
  simp only [St.ob, appSt_objs hal, List.getD]
  rw [List.getElem?_set_ne h1]
  rcases (appV_some hp).2 with e | ⟨ob, U, zs, e, hob⟩
  · rw [e]; exact hx
  · rw [e]
    have h2 : ob ≠ x := fun e => by rw [e, hx] at hob; cases hob
    simp only
    rw [List.getElem?_set_ne h2]
    exact hx
theorem var_pure (h : isVarOp o = true) : isPureOp o = true := by
  unfold isVarOp at h
  unfold isPureOp
  split at h <;> simp_all
theorem addr_not_var {t : Nat} (h : addrAt o = some t) : isVarOp o = false := by
  unfold addrAt at h
  unfold isVarOp
  split at h <;> simp_all
theorem addrAt_some {t : Nat} (h : addrAt o = some t) : (∃ ty, o.op = .load ty (.tmp t)) ∨ o.op = .nilCheck (.tmp t) ∨ ∃ s f, o.op = .fieldAddr s (.tmp t) f := by
  unfold addrAt at h
  split at h
  · split at h
    · cases h; exact .inl ⟨_, by assumption⟩
    · cases h
  · split at h
    · cases h; exact .inr (.inl (by assumption))
    · cases h
  · split at h
    · cases h; exact .inr (.inr ⟨_, _, by assumption⟩)
    · cases h
  · cases h
theorem addr_quiet {t : Nat} (h : addrAt o = some t) : isQuiet E o = true := by
  rcases addrAt_some h with ⟨ty, hop⟩ | hop | ⟨s, f, hop⟩ <;> simp only [isQuiet, hop]
theorem addr_read {all : List Oper} {t : Nat} (h : addrAt o = some t) : t ∈ readsOf all o := by
  rcases addrAt_some h with ⟨ty, hop⟩ | hop | ⟨s, f, hop⟩ <;> exact operand_read (by rw [hop]; simp [Op.operands])
theorem evP_var_congr (hp : isVarOp o = true) (h : ∀ x ∈ o.op.operands, opd S' x = opd S x) (K : PV → Option OB → Option ρ) : evP E o S' al K = evP E o S al K := by
  unfold isVarOp at hp
  split at hp
  · rename_i x hop
    simp only [evP, hop]
    rw [h x (by rw [hop]; simp [Op.operands])]
  · rename_i x hop
    simp only [evP, hop]
    rw [h x (by rw [hop]; simp [Op.operands])]
  · rename_i op t x y e hop
    simp only [evP, hop]
    rw [h x (by rw [hop]; simp [Op.operands]), h y (by rw [hop]; simp [Op.operands])]
  · rename_i a b x hop
    simp only [evP, hop]
    rw [h x (by rw [hop]; simp [Op.operands])]
  · rename_i x i hop
    simp only [evP, hop]
    rw [h x (by rw [hop]; simp [Op.operands])]
  · rename_i c x y hop
    simp only [evP, hop]
    rw [h c (by rw [hop]; simp [Op.operands]), h x (by rw [hop]; simp [Op.operands]), h y (by rw [hop]; simp [Op.operands])]
  · cases hp
theorem boxAt_some {v : PV} (h : boxAt S v = true) : ∃ x q d u, v = .ptr x q ∧ S.ob x = .box d u := by
  unfold boxAt at h
  split at h
  · rename_i x q
    split at h
    · exact ⟨_, _, _, _, rfl, by assumption⟩
    · cases h
  · cases h
theorem addr_none {t : Nat} {v : PV} {b : Option OB} (hl : addrAt o = some t) (h : evQuiet E o S al (fun v b => some (v, b)) = some (v, b)) : b = none := by
  rcases addrAt_some hl with ⟨ty, hop⟩ | hop | ⟨s, f, hop⟩
  · exact load_none (t := t) (by simp only [loadAt, hop]) h
  · simp only [evQuiet, hop, evP] at h
    repeat' split at h
    all_goals (first | (cases h; rfl) | cases h)
  · exact pure_none (E := E) (o := o) (S := S) (al := al) (by simp only [isPureOp, hop]) (by simpa only [evQuiet, hop] using h)
theorem Res_simple_none {all : List Oper} {bf : List (List Nat)} {base i : Nat} {v : PV} {b : Option OB} (hk : isVarOp o = true ∨ ∃ t, addrAt o = some t) (h : Res E all bf base i o S v b) : b = none := by
  rcases hk with hk | ⟨t, hk⟩
  · exact Res_pure_none (var_pure hk) h
  · rcases h.2 with ⟨_, _, h⟩ | ⟨_, h, _⟩
    · exact h
    · exact addr_none hk h
theorem Res_behind {S' : St} {all : List Oper} {bf : List (List Nat)} {base i : Nat} {v : PV} {b : Option OB} {oa : Oper} (h : AppRes E oa S al S') (hal : al < S.objs.length) (hdead : S.ob al = .dead)
    (hk : isVarOp o = true ∨ ∃ t, addrAt o = some t ∧ boxAt S (S.slots.getD t .undef) = true) (hr : ∀ t ∈ readsOf all o, oa.dst ≠ some t) : Res E all bf base i o S' v b ↔ Res E all bf base i o S v b := by
  have hs : ∀ t ∈ readsOf all o, S'.slots.getD t .undef = S.slots.getD t .undef := fun t ht => h.slot (hr t ht)
  have h1 : known all o S' = known all o S := by
    unfold known
    split
    · rfl
    · rfl
    · rename_i g want hg
      rw [hs g (guard_read hg)]
  have h2 : wanted all o S' = wanted all o S := by
    unfold wanted
    split
    · rename_i g want hg
      rw [hs g (guard_read hg)]
    · rfl
  have h3 : ∀ K : PV → Option OB → Option (PV × Option OB), evQuiet E o (S'.mask base all.length (seen E all bf i)) (base + i) K = evQuiet E o (S.mask base all.length (seen E all bf i)) (base + i) K := fun K => by
    rcases hk with hk | ⟨t, hk, hb⟩
    · rw [evQuiet_pure (var_pure hk), evQuiet_pure (var_pure hk)]
      refine evP_var_congr hk (fun x hx => ?_) K
      rw [opd_mask, opd_mask]
      cases x with
      | tmp t => exact hs t (operand_read hx)
      | _ => rfl
    · obtain ⟨x, q, d, u, e1, e2⟩ := boxAt_some hb
      have e3 := h.box hal hdead e2
      have e4 : opd (S'.mask base all.length (seen E all bf i)) (.tmp t) = .ptr x q := by
        rw [opd_mask]; show S'.slots.getD t .undef = _
        rw [hs t (addr_read hk), e1]
      have e5 : opd (S.mask base all.length (seen E all bf i)) (.tmp t) = .ptr x q := by
        rw [opd_mask]; exact e1
      have e6 : (S'.mask base all.length (seen E all bf i)).ob x = (S.mask base all.length (seen E all bf i)).ob x := by
        rw [mask_ob, mask_ob, e3, e2]
      rcases addrAt_some hk with ⟨ty, hop⟩ | hop | ⟨s, f, hop⟩
      · simp only [evQuiet, hop, evP, e4, e5, e6]
      · simp only [evQuiet, hop, evP, e4, e5, e6]
      · simp only [evQuiet, hop, evP, e4, e5, e6]
  unfold Res
  rw [h1, h2, h3, h.len hal]
/-- operations at addresses (before the m-th) that append i need not wait for, and that are still to be done, are at boxes -/
def LateA (all : List Oper) (bf : List (List Nat)) (L : Nat → Bool) (i m : Nat) (S : St) : Prop :=
  ∀ k p t, k < m → L k = false → k ∉ bf.getD i [] → all[k]? = some p → addrAt p = some t → boxAt S (S.slots.getD t .undef) = true
theorem lateA_spec {bs : List Nat} {j : Nat} : ∀ (l : List Oper) (i : Nat), lateA bs j S i l = true → ∀ k p t, l[k]? = some p → i + k < j → i + k ∉ bs → addrAt p = some t → boxAt S (S.slots.getD t .undef) = true
  | [], i, h, k, p, t, hk, _, _, _ => by simp at hk
  | q :: l, i, h, k, p, t, hk, h1, h2, h3 => by
    simp only [lateA, Bool.and_eq_true] at h
    cases k with
    | zero =>
      simp only [List.getElem?_cons_zero, Option.some.injEq] at hk
      subst hk
      have e1 : Nat.blt i j = true := by simp; omega
      have e2 : mem i bs = false := by
        rw [← Bool.not_eq_true, mem_iff]
        exact h2
      rw [e1, e2, cond_true, cond_false, h3] at h
      exact h.1
    | succ k =>
      simp only [List.getElem?_cons_succ] at hk
      exact lateA_spec l (i + 1) h.2 k p t hk (by omega) (by rwa [show i + 1 + k = i + (k + 1) from by omega]) h3
theorem lateA_of {all : List Oper} {bf : List (List Nat)} {L : Nat → Bool} {j : Nat} (ha : isApp E bf j o = true) (h : lateAll E all bf j o S = true) : LateA all bf L j j S := by
  intro k p t h1 _ h2 h3 h4
  obtain ⟨c, _, _, _, hop, _⟩ := isApp_some ha
  simp only [lateAll, hop, ha, cond_true] at h
  exact lateA_spec all 0 h k p t h3 (by simpa using h1) (by simpa using h2) h4
/-! ### What is still to be done -/
def Rest (E : Env) (all : List Oper) (bf : List (List Nat)) (base : Nat) (K : St → Option ρ) (r : ρ) (L : Nat → Bool) : Nat → List Oper → St → Prop
  | _, [], S => K S = some r
  | j, o :: l, S =>
    if L j then Rest E all bf base K r L (j + 1) l S
    else if isQuiet E o then ∃ v b, Res E all bf base j o S v b ∧ Rest E all bf base K r L (j + 1) l (S.add (base + j) o.dst v b)
    else if isStore0 o then ∃ S', StoreRes E o S S' ∧ Late all bf L j j o S ∧ Rest E all bf base K r L (j + 1) l S'
    else if isBig E bf j o then ∃ v new, BigRes E all bf base j o S v new ∧ Rest E all bf base K r L (j + 1) l (S.app o.dst v new)
    else if isApp E bf j o then ∃ S', AppRes E o S (base + j) S' ∧ LateA all bf L j j S ∧ Rest E all bf base K r L (j + 1) l S'
    else wantK all o S (fun S => cond (lateAll E all bf j o S) (evF E o S (base + j) fun S' => cond (pastOK S' base all.length j && cond (hasBig E bf 0 all) (noItFrom S' base all.length) true) (evDraw E all bf base (j + 1) l S' K) none) none)
      (fun S => cond (pastOK (S.put o.dst .undef) base all.length j && cond (hasBig E bf 0 all) (noItFrom (S.put o.dst .undef) base all.length) true) (evDraw E all bf base (j + 1) l (S.put o.dst .undef) K) none) = some r
variable {all : List Oper} {bf : List (List Nat)} {base : Nat} {K : St → Option ρ} {r : ρ}
theorem rest_of_draw : ∀ (l : List Oper) (j : Nat) (S : St) (L : Nat → Bool), evDraw E all bf base j l S K = some r → (∀ k, j ≤ k → L k = false) → Rest E all bf base K r L j l S
  | [], j, S, L, h, hL => by simpa only [evDraw, Rest] using h
  | o :: l, j, S, L, h, hL => by
    simp only [evDraw] at h
    simp only [Rest, hL j (Nat.le_refl _), Bool.false_eq_true, if_false]
    by_cases hq : isQuiet E o = true
    · rw [if_pos hq]
      simp only [hq, cond_true] at h
      have hk := wantK_known h
      rcases wantK_some h with ⟨hw, h⟩ | ⟨hw, h⟩
      · obtain ⟨v, b, h1, h2⟩ := evQuiet_both h
        obtain ⟨h3, h2⟩ := cond_some h2
        simp only [Bool.and_eq_true] at h3
        refine ⟨v, b, ⟨hk, .inr ⟨hw, h1, h3.1.1, h3.1.2, fun hb => ?_⟩⟩, rest_of_draw l (j + 1) _ L h2 (fun k hk => hL k (by omega))⟩
        rw [hb] at h3
        exact h3.2
      · exact ⟨.undef, none, ⟨hk, .inl ⟨hw, rfl, rfl⟩⟩, rest_of_draw l (j + 1) _ L h (fun k hk => hL k (by omega))⟩
    · rw [if_neg hq]
      simp only [hq, cond_false] at h
      by_cases hs : isStore0 o = true
      · rw [if_pos hs]
        obtain ⟨_, hg⟩ := isStore0_some hs
        have hg' : guardOf all o = some none := by simp [guardOf, hg]
        simp only [wantK, hg', store_not_big hs, cond_false] at h
        obtain ⟨hlate, h⟩ := cond_some h
        obtain ⟨S', h1, h2⟩ := storeRes_of hs h
        obtain ⟨_, h2⟩ := cond_some h2
        exact ⟨S', h1, late_of hlate, rest_of_draw l (j + 1) S' L h2 (fun k hk => hL k (by omega))⟩
      · rw [if_neg hs]
        by_cases hb : isBig E bf j o = true
        · rw [if_pos hb]
          obtain ⟨_, _, _, _, hg, _⟩ := big_call hb
          have hg' : guardOf all o = some none := by simp [guardOf, hg]
          simp only [wantK, hg', hb, cond_true] at h
          obtain ⟨v, new, h1, h2⟩ := bigK_both h
          obtain ⟨h3, h2⟩ := cond_some h2
          rw [Bool.and_eq_true] at h3
          exact ⟨v, new, ⟨h1, h3.1, h3.2⟩, rest_of_draw l (j + 1) _ L h2 (fun k hk => hL k (by omega))⟩
        · rw [if_neg hb]
          simp only [hb, cond_false] at h
          by_cases ha : isApp E bf j o = true
          · rw [if_pos ha]
            obtain ⟨_, _, _, _, _, _, hg, _⟩ := isApp_some ha
            have hg' : guardOf all o = some none := by simp [guardOf, hg]
            simp only [wantK, hg'] at h
            obtain ⟨hlate, h⟩ := cond_some h
            obtain ⟨S', h1, h2⟩ := appRes_of ha h
            obtain ⟨_, h2⟩ := cond_some h2
            exact ⟨S', h1, lateA_of ha hlate, rest_of_draw l (j + 1) S' L h2 (fun k hk => hL k (by omega))⟩
          · rw [if_neg ha]
            exact h
def addL (L : Nat → Bool) (i : Nat) : Nat → Bool := fun k => Nat.beq k i || L k
theorem addL_same (L : Nat → Bool) (i : Nat) : addL L i i = true := by simp [addL]
theorem addL_other (L : Nat → Bool) {i k : Nat} (h : k ≠ i) : addL L i k = L k := by
  simp only [addL]
  have : Nat.beq k i = false := by rw [← Bool.not_eq_true]; simpa using h
  rw [this]; rfl
theorem Late.add {L : Nat → Bool} {i j m : Nat} (h : Late all bf L j m o S) : Late all bf (addL L i) j m o S := fun k p t h1 h2 => h k p t h1 (by
  simp only [addL, Bool.or_eq_false_iff] at h2
  exact h2.2)
theorem LateA.add {L : Nat → Bool} {i j m : Nat} (h : LateA all bf L j m S) : LateA all bf (addL L i) j m S := fun k p t h1 h2 => h k p t h1 (by
  simp only [addL, Bool.or_eq_false_iff] at h2
  exact h2.2)
theorem rest_add {i : Nat} : ∀ (l : List Oper) (j : Nat) (S : St) (L : Nat → Bool), i < j → Rest E all bf base K r L j l S → Rest E all bf base K r (addL L i) j l S
  | [], j, S, L, hL, h => by simpa only [Rest] using h
  | o :: l, j, S, L, hL, h => by
    simp only [Rest] at h ⊢
    rw [addL_other L (by omega)]
    split
    · rename_i hj
      rw [if_pos hj] at h
      exact rest_add l (j + 1) S L (by omega) h
    · rename_i hj
      rw [if_neg hj] at h
      split
      · rename_i hq
        rw [if_pos hq] at h
        obtain ⟨v, b, h1, h2⟩ := h
        exact ⟨v, b, h1, rest_add l (j + 1) _ L (by omega) h2⟩
      · rename_i hq
        rw [if_neg hq] at h
        split
        · rename_i hs
          rw [if_pos hs] at h
          obtain ⟨S', h1, h2, h3⟩ := h
          exact ⟨S', h1, h2.add, rest_add l (j + 1) _ L (by omega) h3⟩
        · rename_i hs
          rw [if_neg hs] at h
          split
          · rename_i hb
            rw [if_pos hb] at h
            obtain ⟨v, new, h1, h2⟩ := h
            exact ⟨v, new, h1, rest_add l (j + 1) _ L (by omega) h2⟩
          · rename_i hb
            rw [if_neg hb] at h
            split
            · rename_i ha
              rw [if_pos ha] at h
              obtain ⟨S', h1, h2, h3⟩ := h
              exact ⟨S', h1, h2.add, rest_add l (j + 1) _ L (by omega) h3⟩
            · rename_i ha
              rwa [if_neg ha] at h
/-- an operation that may be next can be taken first -/
theorem Rest.pick {L : Nat → Bool} {i : Nat} {oi : Oper} (hi : all[i]? = some oi) (hLi : L i = false) (hq : isQuiet E oi = true) (hin : i < all.length) : ∀ (l : List Oper) (j : Nat) (S : St), all.drop j = l → j ≤ i → base + all.length ≤ S.objs.length →
    (∀ k, k < i → L k = false → ∀ ok, all[k]? = some ok → ((isQuiet E ok = true ∨ isPureOp oi = true ∧ isStore0 ok = true) ∨ isBig E bf k ok = true ∧ mem all.length (seen E all bf i) = false) ∧ Indep all oi ok ∧ vis base all.length (seen E all bf i) (base + k) = false ∧ vis base all.length (seen E all bf k) (base + i) = false) →
    Rest E all bf base K r L j l S → ∃ v b, Res E all bf base i oi S v b ∧ Rest E all bf base K r (addL L i) j l (S.add (base + i) oi.dst v b)
  | [], j, S, hl, hj, _, _, h => by
    have : all[i]? = none := by
      have e := congrArg List.length hl
      simp at e
      simp; omega
    rw [this] at hi; cases hi
  | o :: l, j, S, hl, hj, hob, hind, h => by
    have hjo : all[j]? = some o := by
      have := congrArg (·[0]?) hl
      simpa using this
    have hl' : all.drop (j + 1) = l := by
      have := congrArg List.tail hl
      simpa using this
    have hjn : j < all.length := (List.getElem?_eq_some_iff.1 hjo).1
    simp only [Rest] at h
    by_cases e : j = i
    · subst e
      rw [hjo] at hi
      cases hi
      rw [hLi, if_neg (by simp), if_pos hq] at h
      obtain ⟨v, b, h1, h2⟩ := h
      refine ⟨v, b, h1, ?_⟩
      simp only [Rest, addL_same, if_true]
      exact rest_add l (j + 1) _ L (by omega) h2
    · by_cases hLj : L j = true
      · rw [if_pos hLj] at h
        obtain ⟨v, b, h1, h2⟩ := Rest.pick hi hLi hq hin l (j + 1) S hl' (by omega) hob hind h
        refine ⟨v, b, h1, ?_⟩
        simp only [Rest, addL_other L e, hLj, if_true]
        exact h2
      · rw [if_neg hLj] at h
        have hLj' : L j = false := by simpa using hLj
        obtain ⟨g1, g2, g3, g4⟩ := hind j (by omega) hLj' o hjo
        rcases g1 with (g1 | ⟨gp, gs⟩) | ⟨gb, gt⟩
        rotate_left 2
        · have gq := big_not_quiet gb
          have gs := big_not_store gb
          rw [if_neg (show ¬ isQuiet E o = true by simp [gq]), if_neg (show ¬ isStore0 o = true by simp [gs]), if_pos gb] at h
          obtain ⟨vj, new, h1, h2⟩ := h
          have hlen2 : base + i < S.objs.length := by omega
          obtain ⟨v, b, h3, h4⟩ := Rest.pick hi hLi hq hin l (j + 1) _ hl' (by omega) (by rw [app_objs, List.length_append]; omega) hind h2
          have h3 := Res_app g2.1 hob hin gt h3
          refine ⟨v, b, h3, ?_⟩
          simp only [Rest, addL_other L e, hLj, if_false]
          rw [if_neg (show ¬ isQuiet E o = true by simp [gq]), if_neg (show ¬ isStore0 o = true by simp [gs]), if_pos gb]
          refine ⟨vj, new, (BigRes_add g2.symm.1 hlen2 g4).2 h1, ?_⟩
          rw [← add_app_comm hlen2 (fun t ht => g2.symm.2.2 t ht)]
          exact h4
        rotate_left
        · have gq := store_not_quiet (E := E) gs
          rw [if_neg (show ¬ isQuiet E o = true by simp [gq]), if_pos gs] at h
          obtain ⟨S', h1, hlate, h2⟩ := h
          have hl2 : S'.objs.length = S.objs.length := h1.len
          obtain ⟨v, b, h3, h4⟩ := Rest.pick hi hLi hq hin l (j + 1) S' hl' (by omega) (by rw [hl2]; exact hob) hind h2
          have hb := Res_pure_none gp h3
          subst hb
          rw [Res_pure gp (fun t ht => h1.slots (fun e => g2.1 t e ht)) hl2 h1.kind] at h3
          refine ⟨v, none, h3, ?_⟩
          simp only [Rest, addL_other L e, hLj, if_false]
          rw [if_neg (show ¬ isQuiet E o = true by simp [gq]), if_pos gs]
          refine ⟨_, h1.put (fun t ht hm => g2.2.1 t ht (operand_read hm)) (fun t ht => g2.2.2 t ht), ?_, h4⟩
          intro k p t k1 k2 k3 k4 k5 ty a x k6
          have k2' : L k = false := by
            simp only [addL, Bool.or_eq_false_iff] at k2
            exact k2.2
          have k7 := hlate k p t k1 k2' k3 k4 k5 ty a x k6
          have g5 := (hind k (by omega) k2' p k4).2.1
          rw [slot_add (fun e => g5.2.1 t e (load_read k5)), opd_add (fun t' ht' e => g2.2.1 t' ht' (operand_read (by rw [k6, e]; simp [Op.operands])))]
          exact k7
        rw [if_pos g1] at h
        obtain ⟨vj, bj, h1, h2⟩ := h
        have hlen : base + j < S.objs.length := by omega
        have hlen2 : base + i < S.objs.length := by omega
        obtain ⟨v, b, h3, h4⟩ := Rest.pick hi hLi hq hin l (j + 1) _ hl' (by omega) (by rw [add_len hlen]; exact hob) hind h2
        rw [Res_local g2.1 hlen g3] at h3
        refine ⟨v, b, h3, ?_⟩
        simp only [Rest, addL_other L e, hLj, if_false]
        rw [if_pos g1]
        refine ⟨vj, bj, (Res_local g2.symm.1 hlen2 g4).2 h1, ?_⟩
        rw [add_comm hlen2 hlen (by omega) (fun t ht => g2.2.2 t ht)]
        exact h4
/-- a call of an inlined function that may be next can be taken first: what stands before it in the text is quiet -/
theorem Rest.pickBig {L : Nat → Bool} {i : Nat} {oi : Oper} (hi : all[i]? = some oi) (hLi : L i = false) (hb : isBig E bf i oi = true) (hin : i < all.length) : ∀ (l : List Oper) (j : Nat) (S : St), all.drop j = l → j ≤ i → base + all.length ≤ S.objs.length →
    (∀ k, k < i → L k = false → ∀ ok, all[k]? = some ok → isQuiet E ok = true ∧ mem all.length (seen E all bf k) = false ∧ Indep all oi ok ∧ vis base all.length (seen E all bf i) (base + k) = false) →
    Rest E all bf base K r L j l S → ∃ v new, BigRes E all bf base i oi S v new ∧ Rest E all bf base K r (addL L i) j l (S.app oi.dst v new)
  | [], j, S, hl, hj, _, _, h => by
    have : all[i]? = none := by
      have e := congrArg List.length hl
      simp at e
      simp; omega
    rw [this] at hi; cases hi
  | o :: l, j, S, hl, hj, hob, hind, h => by
    have hjo : all[j]? = some o := by
      have := congrArg (·[0]?) hl
      simpa using this
    have hl' : all.drop (j + 1) = l := by
      have := congrArg List.tail hl
      simpa using this
    have hjn : j < all.length := (List.getElem?_eq_some_iff.1 hjo).1
    simp only [Rest] at h
    by_cases e : j = i
    · subst e
      rw [hjo] at hi
      cases hi
      rw [hLi, if_neg (by simp), if_neg (show ¬ isQuiet E oi = true by simp [big_not_quiet hb]), if_neg (show ¬ isStore0 oi = true by simp [big_not_store hb]), if_pos hb] at h
      obtain ⟨v, new, h1, h2⟩ := h
      refine ⟨v, new, h1, ?_⟩
      simp only [Rest, addL_same, if_true]
      exact rest_add l (j + 1) _ L (by omega) h2
    · by_cases hLj : L j = true
      · rw [if_pos hLj] at h
        obtain ⟨v, new, h1, h2⟩ := Rest.pickBig hi hLi hb hin l (j + 1) S hl' (by omega) hob hind h
        refine ⟨v, new, h1, ?_⟩
        simp only [Rest, addL_other L e, hLj, if_true]
        exact h2
      · rw [if_neg hLj] at h
        have hLj' : L j = false := by simpa using hLj
        obtain ⟨g1, gt, g2, g3⟩ := hind j (by omega) hLj' o hjo
        rw [if_pos g1] at h
        obtain ⟨vj, bj, h1, h2⟩ := h
        have hlen : base + j < S.objs.length := by omega
        obtain ⟨v, new, h3, h4⟩ := Rest.pickBig hi hLi hb hin l (j + 1) _ hl' (by omega) (by rw [add_len hlen]; exact hob) hind h2
        rw [BigRes_add g2.1 hlen g3] at h3
        refine ⟨v, new, h3, ?_⟩
        simp only [Rest, addL_other L e, hLj, if_false]
        rw [if_pos g1]
        refine ⟨vj, bj, Res_app2 g2.symm.1 hob hjn gt h1, ?_⟩
        rw [add_app_comm hlen (fun t ht => g2.2.2 t ht)]
        exact h4
/-- a store that may be next can be taken first: what stands before it in the text works on variables alone, or loads from other objects -/
theorem Rest.pickStore {L : Nat → Bool} {i : Nat} {oi : Oper} (hi : all[i]? = some oi) (hLi : L i = false) (hs : isStore0 oi = true) (hin : i < all.length)
    (hind : ∀ k, k < i → L k = false → ∀ ok, all[k]? = some ok → (isPureOp ok = true ∨ ∃ t, loadAt ok = some t ∧ isSt oi = true ∧ keptFrom t k i 0 all = true) ∧ k ∉ bf.getD i [] ∧ Indep all oi ok) : ∀ (l : List Oper) (j : Nat) (S : St), all.drop j = l → j ≤ i →
    Rest E all bf base K r L j l S → ∃ S', StoreRes E oi S S' ∧ Late all bf L i j oi S ∧ Rest E all bf base K r (addL L i) j l S'
  | [], j, S, hl, hj, h => by
    have : all[i]? = none := by
      have e := congrArg List.length hl
      simp at e
      simp; omega
    rw [this] at hi; cases hi
  | o :: l, j, S, hl, hj, h => by
    have hjo : all[j]? = some o := by
      have := congrArg (·[0]?) hl
      simpa using this
    have hl' : all.drop (j + 1) = l := by
      have := congrArg List.tail hl
      simpa using this
    simp only [Rest] at h
    by_cases e : j = i
    · subst e
      rw [hjo] at hi
      cases hi
      rw [hLi, if_neg (by simp), if_neg (show ¬ isQuiet E oi = true by simp [store_not_quiet (E := E) hs]), if_pos hs] at h
      obtain ⟨S', h1, hlate, h2⟩ := h
      refine ⟨S', h1, hlate, ?_⟩
      simp only [Rest, addL_same, if_true]
      exact rest_add l (j + 1) _ L (by omega) h2
    · by_cases hLj : L j = true
      · rw [if_pos hLj] at h
        obtain ⟨S', h1, hlate, h2⟩ := Rest.pickStore hi hLi hs hin hind l (j + 1) S hl' (by omega) h
        refine ⟨S', h1, fun k p t k1 => hlate k p t (by omega), ?_⟩
        simp only [Rest, addL_other L e, hLj, if_true]
        exact h2
      · rw [if_neg hLj] at h
        have hLj' : L j = false := by simpa using hLj
        obtain ⟨g1, gb, g2⟩ := hind j (by omega) hLj' o hjo
        have gq : isQuiet E o = true := by
          rcases g1 with g1 | ⟨t, g1, _⟩
          · exact pure_quiet g1
          · exact load_quiet g1
        rw [if_pos gq] at h
        obtain ⟨vj, bj, h1, h2⟩ := h
        have hb : bj = none := by
          rcases g1 with g1 | ⟨t, g1, _⟩
          · exact Res_pure_none g1 h1
          · exact Res_load_none g1 h1
        subst hb
        obtain ⟨S2, h3, hlate, h4⟩ := Rest.pickStore hi hLi hs hin hind l (j + 1) _ hl' (by omega) h2
        obtain ⟨S', h5, rfl⟩ := StoreRes.unput (S := S) (d := o.dst) (v := vj) h3 (fun t ht hm => g2.1 t ht (operand_read hm)) (fun t ht e => g2.2.2 t e ht)
        have hlate2 : Late all bf L i (j + 1) oi S := by
          intro k p t k1 k2 k3 k4 k5 ty a x k6
          have k7 := hlate k p t k1 k2 k3 k4 k5 ty a x k6
          have hne : o.dst ≠ some t := by
            rcases (hind k (by omega) k2 p k4).1 with g | ⟨t', g, _, g'⟩
            · rw [load_not_pure k5] at g; cases g
            · rw [k5] at g
              cases g
              exact keptFrom_spec all 0 g' j o hjo (by omega) (by omega)
          rw [slot_add hne, opd_add (fun t' ht' e => g2.1 t' ht' (operand_read (by rw [k6, e]; simp [Op.operands])))] at k7
          exact k7
        refine ⟨S', h5, fun k p t k1 => hlate2 k p t (by omega), ?_⟩
        simp only [Rest, addL_other L e, hLj, if_false]
        rw [if_pos gq]
        refine ⟨vj, none, ?_, h4⟩
        rcases g1 with g1 | ⟨t, g1, gst, _⟩
        · exact (Res_pure g1 (fun t ht => h5.slots (fun e => g2.2.1 t e ht)) h5.len h5.kind).2 h1
        · exact (Res_apart g1 h5 gst (fun ty a x k6 => hlate2 j o t (by omega) hLj' gb hjo g1 ty a x k6)).2 h1
/-- an append that may be next can be taken first: what stands before it in the text works on variables alone, or at addresses of boxes -/
theorem Rest.pickApp {L : Nat → Bool} {i : Nat} {oi : Oper} (hi : all[i]? = some oi) (hLi : L i = false) (ha : isApp E bf i oi = true) (hin : i < all.length)
    (hind : ∀ k, k < i → L k = false → ∀ ok, all[k]? = some ok → (isVarOp ok = true ∨ ∃ t, addrAt ok = some t ∧ keptFrom t k i 0 all = true) ∧ k ∉ bf.getD i [] ∧ Indep all oi ok) : ∀ (l : List Oper) (j : Nat) (S : St), all.drop j = l → j ≤ i → base + all.length ≤ S.objs.length → S.ob (base + i) = .dead →
    Rest E all bf base K r L j l S → ∃ S', AppRes E oi S (base + i) S' ∧ LateA all bf L i j S ∧ Rest E all bf base K r (addL L i) j l S'
  | [], j, S, hl, hj, _, _, h => by
    have : all[i]? = none := by
      have e := congrArg List.length hl
      simp at e
      simp; omega
    rw [this] at hi; cases hi
  | o :: l, j, S, hl, hj, hob, hdead, h => by
    have hjo : all[j]? = some o := by
      have := congrArg (·[0]?) hl
      simpa using this
    have hl' : all.drop (j + 1) = l := by
      have := congrArg List.tail hl
      simpa using this
    simp only [Rest] at h
    by_cases e : j = i
    · subst e
      rw [hjo] at hi
      cases hi
      rw [hLi, if_neg (by simp), if_neg (show ¬ isQuiet E oi = true by simp [app_not_quiet ha]), if_neg (show ¬ isStore0 oi = true by simp [app_not_store ha]), if_neg (show ¬ isBig E bf j oi = true by simp [app_not_big (bf' := bf) (j' := j) ha]), if_pos ha] at h
      obtain ⟨S', h1, hlate, h2⟩ := h
      refine ⟨S', h1, hlate, ?_⟩
      simp only [Rest, addL_same, if_true]
      exact rest_add l (j + 1) _ L (by omega) h2
    · by_cases hLj : L j = true
      · rw [if_pos hLj] at h
        obtain ⟨S', h1, hlate, h2⟩ := Rest.pickApp hi hLi ha hin hind l (j + 1) S hl' (by omega) hob hdead h
        refine ⟨S', h1, fun k p t k1 => hlate k p t (by omega), ?_⟩
        simp only [Rest, addL_other L e, hLj, if_true]
        exact h2
      · rw [if_neg hLj] at h
        have hLj' : L j = false := by simpa using hLj
        obtain ⟨g1, gb, g2⟩ := hind j (by omega) hLj' o hjo
        have gq : isQuiet E o = true := by
          rcases g1 with g1 | ⟨t, g1, _⟩
          · exact pure_quiet (var_pure g1)
          · exact addr_quiet g1
        rw [if_pos gq] at h
        obtain ⟨vj, bj, h1, h2⟩ := h
        have hb : bj = none := Res_simple_none (g1.imp id fun ⟨t, g, _⟩ => ⟨t, g⟩) h1
        subst hb
        have hobs : (S.add (base + j) o.dst vj none).ob = S.ob := by cases o.dst <;> rfl
        have hlen : (S.add (base + j) o.dst vj none).objs.length = S.objs.length := by cases o.dst <;> rfl
        obtain ⟨S2, h3, hlate, h4⟩ := Rest.pickApp hi hLi ha hin hind l (j + 1) _ hl' (by omega) (by rw [hlen]; exact hob) (by rw [hobs]; exact hdead) h2
        obtain ⟨S', h5, rfl⟩ := AppRes.unput (S := S) (d := o.dst) (v := vj) h3 (fun t ht hm => g2.1 t ht (operand_read hm)) (fun t ht e => g2.2.2 t e ht)
        have hlate2 : LateA all bf L i (j + 1) S := by
          intro k p t k1 k2 k3 k4 k5
          have k7 := hlate k p t k1 k2 k3 k4 k5
          have hne : o.dst ≠ some t := by
            rcases (hind k (by omega) k2 p k4).1 with g | ⟨t', g, g'⟩
            · rw [addr_not_var k5] at g; cases g
            · rw [k5] at g
              cases g
              exact keptFrom_spec all 0 g' j o hjo (by omega) (by omega)
          rw [slot_add hne] at k7
          simp only [boxAt, hobs] at k7 ⊢
          exact k7
        refine ⟨S', h5, fun k p t k1 => hlate2 k p t (by omega), ?_⟩
        simp only [Rest, addL_other L e, hLj, if_false]
        rw [if_pos gq]
        refine ⟨vj, none, ?_, h4⟩
        refine (Res_behind h5 (by omega) hdead ?_ (fun t ht e => g2.2.1 t e ht)).2 h1
        rcases g1 with g1 | ⟨t, g1, _⟩
        · exact .inl g1
        · exact .inr ⟨t, g1, hlate2 j o t (by omega) hLj' gb hjo g1⟩
end
end Go.Vm

/- Vm, part 18: regions that draw their order are right. Own work. -/
set_option linter.unusedVariables false
set_option linter.unusedSimpArgs false
set_option linter.unusedSectionVars false
namespace Go.Vm
variable [MonotC]
open Go.RowKit
section
variable {P : Program} {E : Env} {c : Cx} {S : St} {μ : Nat → Value} {a : Act} {w : World} {o : Oper} {al n : Nat} {ds : List Nat} {ρ : Type} {r : ρ} {next : Act → World → Prop} {Q : Exit → Act → World → Prop}
/-! ### A quiet operation -/
theorem quietD (hE : EnvOK P E) {A0 : Nat → Prop} (hs : Slots w A0 S.ob μ S.slots a) (hO : Objs w A0 S.ob μ) (hf : Fresh S al) {v : PV} {b : Option OB} (h : evQuiet E o S al (fun v b => some (v, b)) = some (v, b))
    (hnext : ∀ val w', Keep None w w' → (match b with
      | none => VR w' A0 S.ob μ v val
      | some b => ∃ mv, (∀ x, blkOf mv = some x → w.heap.size ≤ x ∧ x < w'.heap.size) ∧ OR w' (addA A0 mv) (upd S.ob al b) (upd μ al mv) al ∧ VR w' (addA A0 mv) (upd S.ob al b) (upd μ al mv) v val) → next (a.put o.dst val) w') : o.wp P a w next Q := by
  have hpp : evP E o S al (fun v b => some (v, b)) = some (v, b) → o.wp P a w next Q := fun h => by
    obtain ⟨pv, nb, hk, val, w', hrun, hkeep, hv⟩ := evP_sound hE.1 hs hO (fun _ _ _ => hf) h
    simp only [Option.some.injEq, Prod.mk.injEq] at hk
    obtain ⟨rfl, rfl⟩ := hk
    exact wp_value hrun (hnext val w' hkeep hv)
  unfold evQuiet at h
  split at h
  · rename_i c0 hop
    split at h
    · rename_i g hc
      obtain ⟨as, h1, h⟩ := optK_some h
      obtain ⟨h2, h⟩ := cond_some h
      let A : Nat → Prop := fun x => A0 x ∧ ∀ o' ∈ shownIn (E.call g).modes (c0.args.toList.map (opd S)), blkOf (μ o') ≠ some x
      have hA : ∀ x, A x → A0 x := fun x hx => hx.1
      have hargs : TRs w A S.ob μ as (c0.args.toList.map a.eval) := showArgs_sound hO hA _ _ _ _ h1 (hs.trs _) (fun o' ho' x hx hAx => hAx.2 o' ho' hx)
      have hoid : PV.oidsL as = [] := List.isEmpty_iff.1 h2
      have hargs' : TRs w A (obs []) μ as (c0.args.toList.map a.eval) :=
        TRs.later (Keep.refl None w) (fun _ _ h => h) (fun _ h => h.elim) as (fun x hx => by rw [hoid] at hx; cases hx) _ hargs
      have hd : ∀ i, obs [] i = .dead := fun i => rfl
      have hlie : Objs w A (obs []) μ := ⟨fun i => by unfold OR; rw [hd]; trivial, fun i _ _ h _ _ _ => (by rw [hd] at h; cases h), fun x hx => (by obtain ⟨i, hx, _⟩ := hx; rw [hd] at hx; cases hx), fun x hx => hO.old x (hA x hx), fun p hp => ⟨(hO.lay p hp).1, fun a => (hO.lay p hp).2 (hA _ a)⟩⟩
      obtain ⟨hen, hcalls⟩ := hE.2 g as [] _ _ h
      have hcalls := hcalls w A μ _ hlie hargs'
      have hrun : (execOp a.eval o).run P w = .ok (.enter g (c0.args.map a.eval)) w := by
        obtain ⟨f0, hc, e⟩ : ∃ f0, c0.callee = .value f0 ∧ a.eval f0 = .func (.func g) #[] #[] := by
          unfold quietCallee at hc
          split at hc
          · rename_i f0 hf0
            split at hc
            · cases hc
              exact ⟨_, hf0, rfl⟩
            · rename_i t
              obtain ⟨g', _, hc⟩ := Option.bind_eq_some_iff.1 hc
              unfold quietTmp at hc
              split at hc
              · rename_i g2 caps hsl
                split at hc
                · obtain ⟨hb, hc⟩ := cond_some hc
                  cases hc
                  have hb := Nat.eq_of_beq_eq_true hb
                  subst hb
                  refine ⟨_, hf0, ?_⟩
                  have hv := hs.opd (.tmp t)
                  simp only [opd, hsl] at hv
                  obtain ⟨vs, e, ht⟩ := hv.func
                  simp only [TRs] at ht
                  have : vs = #[] := Array.toList_eq_nil_iff.1 ht
                  rw [e, this]
                · cases hc
              · cases hc
            · cases hc
          · cases hc
        simp only [execOp, hop, resolve, hc, e, Deferred.ofValue, invoke, Sem.run_bind, Sem.run_pure, Result.andThen]
        rw [← hen (c0.args.map a.eval) w]
        simp [invoke]
      simp only [Oper.wp, hrun, Oper.upon_enter]
      have e : (c0.args.toList.map a.eval).toArray = c0.args.map a.eval := by apply Array.ext'; simp
      rw [e] at hcalls
      refine hcalls.mono ?_
      rintro e w' ⟨val, res, objs', μ', rfl, hk, hp⟩
      obtain ⟨hsl, hk2⟩ := cond_some hk
      clear hk
      simp only [Bool.or_eq_true, Bool.and_eq_true] at hsl
      have hkeep : Keep None w w' := hp.keep.mono (fun x _ hx => by obtain ⟨i, hx, _⟩ := hx; rw [hd] at hx; cases hx)
      refine hnext val w' hkeep ?_
      have hA0 : (shownIn (E.call g).modes (c0.args.toList.map (opd S))).isEmpty = true → ∀ x, A0 x → A x := fun he x hx => ⟨hx, fun o' ho' => by rw [List.isEmpty_iff.1 he] at ho'; cases ho'⟩
      split at hk2
      · obtain ⟨hv, hk⟩ := cond_some hk2
        simp only [Option.some.injEq, Prod.mk.injEq] at hk
        obtain ⟨rfl, rfl⟩ := hk
        simp only
        have hv' : res.oids = [] := List.isEmpty_iff.1 hv
        have hr := hp.res
        rcases hsl with he | ⟨hs1, _⟩
        · exact VR.later (Keep.refl None w') (fun x _ hx => .inl (hA0 he x hx)) (fun _ h => h.elim) (fun x hx => by rw [hv'] at hx; cases hx) hr
        · exact VR.later (Keep.refl None w') (fun x _ hx => hx) (fun _ h => h.elim) (fun x hx => by rw [hv'] at hx; cases hx) (VR.flat (A' := A0) hs1 hr)
      · rename_i nb
        obtain ⟨hv, hk⟩ := cond_some hk2
        simp only [Option.some.injEq, Prod.mk.injEq] at hk
        obtain ⟨rfl, rfl⟩ := hk
        simp only [Bool.and_eq_true] at hv
        obtain ⟨hna, hv1, hv2⟩ := hv
        rw [boundL_iff] at hv1 hv2
        simp only
        have hob0 : obs [nb] 0 = nb := rfl
        have hmoved : ∀ x, x < 1 → Moved (obs [nb]) μ' (upd S.ob al (nb.ren fun _ => al)) (upd μ al (μ' 0)) x al := fun x hx => by
          have : x = 0 := by omega
          subst this
          unfold Moved
          rw [upd_same, upd_same, hob0]
          cases nb <;> simp [OB.ren]
        have hown : ∀ x, own (obs [nb]) μ' x ↔ blkOf (μ' 0) = some x := fun x => ⟨fun h => by
          obtain ⟨i, h1, h2⟩ := h
          have := obs_len h1
          have : i = 0 := by simpa using this
          subst this; exact h2, fun h => ⟨0, hna, h⟩⟩
        refine ⟨μ' 0, fun x hx => ⟨?_, hp.lie.old x (.inr ((hown x).2 hx))⟩, ?_, ?_⟩
        · rcases hp.mine x ((hown x).2 hx) with h | h
          · obtain ⟨i, h, _⟩ := h; rw [hd] at h; cases h
          · exact h
        · have h0 : OR w' (addA A0 (μ' 0)) (obs [nb]) μ' 0 := by
            rcases hsl with he | ⟨_, hs2⟩
            · exact (hp.lie.each 0).later (Keep.refl None w') (fun x _ hx => hx.imp (hA0 he x) (hown x).2) (fun _ h => h.elim) (.inl rfl) (fun _ => rfl) (fun x ha hx => ⟨fun h => h.elim, hp.lie.old x (.inr ((hown x).2 hx))⟩) (fun x _ => Later.refl _ _ x)
            · exact OR.flat (noSl_obs hs2 0) (hp.lie.each 0)
          exact OR.ren (fun _ => al) h0 (by rw [upd_same, hob0]) (by rw [upd_same]) (fun x hx => hmoved x (hv2 x (by rw [hob0] at hx; exact hx)))
        · have h0 : VR w' (addA A0 (μ' 0)) (obs [nb]) μ' res val := by
            rcases hsl with he | ⟨hs1, _⟩
            · exact VR.later (Keep.refl None w') (fun x _ hx => hx.imp (hA0 he x) (hown x).2) (fun _ h => h.elim) (fun x _ => Later.refl _ _ x) hp.res
            · exact VR.flat hs1 hp.res
          exact VR.ren (fun _ => al) (fun x hx => hmoved x (hv1 x hx)) h0
      · cases hk2
    · exact hpp h
  · exact hpp h

/-! ### What the checks say -/
theorem okOid_iff {base n j : Nat} {bs : List Nat} : ∀ {l : List Nat}, okOid base n j bs l = true ↔ ∀ x ∈ l, vis base n bs x = true ∨ x = base + j
  | [] => by simp [okOid]
  | x :: l => by
    simp only [okOid, Bool.and_eq_true, okOid_iff (l := l), List.mem_cons, forall_eq_or_imp, vis, Bool.or_eq_true]
    refine and_congr ?_ Iff.rfl
    have : (Nat.beq x (base + j) = true) ↔ x = base + j := by simp
    rw [this]
    constructor
    · rintro (h | h | h) <;> simp [h]
    · rintro ((h | h) | h) <;> simp [h]
theorem okPast_iff {lo hi : Nat} : ∀ {l : List Nat}, okPast lo hi l = true ↔ ∀ x ∈ l, x ≤ lo ∨ hi ≤ x
  | [] => by simp [okPast]
  | x :: l => by simp [okPast, okPast_iff (l := l)]
theorem okPastO_iff {lo hi : Nat} : ∀ {l : List OB}, okPastO lo hi l = true ↔ ∀ b ∈ l, ∀ x ∈ b.oids, x ≤ lo ∨ hi ≤ x
  | [] => by simp [okPastO]
  | b :: l => by simp [okPastO, okPastO_iff (l := l), okPast_iff]
theorem deadFrom_iff {S : St} : ∀ {k i : Nat}, deadFrom S i k = true ↔ ∀ x, i ≤ x → x < i + k → S.ob x = .dead
  | 0, i => by simp only [deadFrom, true_iff]; intro x h1 h2; omega
  | k + 1, i => by
    have hd : (!(S.ob i).alive) = true ↔ S.ob i = .dead := by cases S.ob i <;> simp [OB.alive]
    simp only [deadFrom, Bool.and_eq_true, deadFrom_iff (k := k) (i := i + 1), hd]
    constructor
    · rintro ⟨h1, h2⟩ x h3 h4
      by_cases e : x = i
      · subst e; exact h1
      · exact h2 x (by omega) (by omega)
    · intro h
      exact ⟨h i (by omega) (by omega), fun x h1 h2 => h x (by omega) (by omega)⟩
theorem mem_addN {x y : Nat} {r : List Nat} : x ∈ addN y r ↔ x = y ∨ x ∈ r := by
  unfold addN
  cases h : mem y r
  · simp
  · have := mem_iff.1 h
    simp only [cond_true]
    exact ⟨.inr, fun h => h.elim (fun e => e ▸ this) id⟩
theorem mem_adds {x : Nat} : ∀ {l r : List Nat}, x ∈ adds l r ↔ x ∈ l ∨ x ∈ r
  | [], r => by simp [adds]
  | y :: l, r => by
    simp only [adds, mem_adds (l := l), mem_addN, List.mem_cons]
    constructor
    · rintro (h | h | h)
      · exact .inl (.inr h)
      · exact .inl (.inl h)
      · exact .inr h
    · rintro ((h | h) | h)
      · exact .inr (.inl h)
      · exact .inl h
      · exact .inr (.inr h)
theorem mem_foldl {bf : List (List Nat)} {x : Nat} : ∀ {l : List Edge} {r0 : List Nat}, x ∈ l.foldl (fun r e => addN e.on (adds (bf.getD e.on []) r)) r0 ↔ x ∈ r0 ∨ ∃ e ∈ l, x = e.on ∨ x ∈ bf.getD e.on []
  | [], r0 => by simp
  | e :: l, r0 => by
    rw [List.foldl_cons, mem_foldl (l := l)]
    simp only [List.mem_cons, mem_addN, mem_adds, exists_eq_or_imp]
    constructor
    · rintro ((h | h | h) | h)
      · exact .inr (.inl (.inl h))
      · exact .inr (.inl (.inr h))
      · exact .inl h
      · exact .inr (.inr h)
    · rintro (h | (h | h) | h)
      · exact .inl (.inr (.inr h))
      · exact .inl (.inl h)
      · exact .inl (.inr (.inl h))
      · exact .inr h
theorem befores_prefix : ∀ (l : List Oper) (acc : List (List Nat)) (i : Nat), i < acc.length → (befores l acc)[i]? = acc[i]?
  | [], acc, i, h => rfl
  | o :: l, acc, i, h => by
    simp only [befores]
    rw [befores_prefix l _ i (by simp; omega), List.getElem?_append_left h]
theorem befores_spec : ∀ (l : List Oper) (acc : List (List Nat)) (i : Nat) (o : Oper), l[i]? = some o → ∀ x, x ∈ (befores l acc).getD (acc.length + i) [] ↔
    ∃ e ∈ o.after.toList, bindsAlways e = true ∧ (x = e.on ∨ (e.on < acc.length + i ∧ x ∈ (befores l acc).getD e.on []))
  | [], acc, i, o, h, x => by simp at h
  | p :: l, acc, 0, o, h, x => by
    simp only [List.getElem?_cons_zero, Option.some.injEq] at h
    subst h
    simp only [befores, Nat.add_zero]
    have e1 : ∀ k, k < acc.length + 1 → (befores l (acc ++ [(p.after.toList.filter bindsAlways).foldl (fun r e => addN e.on (adds (acc.getD e.on []) r)) []])).getD k [] = (acc ++ [(p.after.toList.filter bindsAlways).foldl (fun r e => addN e.on (adds (acc.getD e.on []) r)) []]).getD k [] := fun k hk => by
      simp only [List.getD]
      rw [befores_prefix l _ k (by simp; omega)]
    rw [e1 _ (by omega)]
    have e2 : (acc ++ [(p.after.toList.filter bindsAlways).foldl (fun r e => addN e.on (adds (acc.getD e.on []) r)) []]).getD acc.length [] = (p.after.toList.filter bindsAlways).foldl (fun r e => addN e.on (adds (acc.getD e.on []) r)) [] := by
      simp [List.getD]
    rw [e2, mem_foldl]
    simp only [List.not_mem_nil, false_or, List.mem_filter]
    constructor
    · rintro ⟨e, ⟨h1, h2⟩, h3⟩
      refine ⟨e, h1, h2, h3.imp id fun h4 => ?_⟩
      have hlt : e.on < acc.length := by
        rcases Nat.lt_or_ge e.on acc.length with h5 | h5
        · exact h5
        · have : acc[e.on]? = none := by simp; omega
          simp [List.getD, this] at h4
      refine ⟨hlt, ?_⟩
      rw [e1 _ (by omega)]
      simpa [List.getD, List.getElem?_append_left hlt] using h4
    · rintro ⟨e, h1, h2, h3⟩
      refine ⟨e, ⟨h1, h2⟩, h3.imp id fun ⟨hlt, h4⟩ => ?_⟩
      rw [e1 _ (by omega)] at h4
      simpa [List.getD, List.getElem?_append_left hlt] using h4
  | p :: l, acc, i + 1, o, h, x => by
    simp only [List.getElem?_cons_succ] at h
    simp only [befores]
    have := befores_spec l (acc ++ [(p.after.toList.filter bindsAlways).foldl (fun r e => addN e.on (adds (acc.getD e.on []) r)) []]) i o h x
    simp only [List.length_append, List.length_cons, List.length_nil] at this
    rw [show acc.length + (i + 1) = acc.length + (0 + 1) + i from by omega]
    exact this
theorem standsWith_spec {all : List Oper} {bf : List (List Nat)} {j : Nat} {o : Oper} : ∀ (l : List Oper) (i : Nat), standsWith E all bf j o i l = true → ∀ k p, l[k]? = some p → i + k < j →
    i + k ∈ bf.getD j [] ∨ ((((mayPair E o p || (mayLate all (i + k) j o p || mayApp E all bf (i + k) j o p)) || (isQuiet E o && isBig E bf (i + k) p)) || (isBig E bf j o && isQuiet E p)) = true ∧ Indep all o p)
  | [], i, h, k, p, hk, hj => by simp at hk
  | q :: l, i, h, k, p, hk, hj => by
    simp only [standsWith] at h
    have hij : Nat.blt i j = true := by simp; omega
    simp only [hij, cond_true, Bool.and_eq_true] at h
    cases k with
    | zero =>
      simp only [List.getElem?_cons_zero, Option.some.injEq] at hk
      subst hk
      have h1 := h.1
      by_cases hm : mem i (bf.getD j []) = true
      · exact .inl (by rw [mem_iff] at hm; exact hm)
      · simp only [hm, cond_false, Bool.and_eq_true] at h1
        obtain ⟨⟨g1, g3⟩, g4⟩ := h1
        refine .inr ⟨g1, fun d hd => ?_, fun d hd => ?_, fun d hd hp => ?_⟩
        · rw [hd] at g3; simpa [mem_not] using g3
        · rw [hd] at g4; simp only [Bool.and_eq_true, Bool.not_eq_true', mem_not] at g4; exact g4.1
        · rw [hd, hp] at g4; simp at g4
    | succ k =>
      simp only [List.getElem?_cons_succ] at hk
      have := standsWith_spec l (i + 1) h.2 k p hk (by omega)
      rwa [show i + 1 + k = i + (k + 1) from by omega] at this
theorem drawOK_spec {all : List Oper} {bf : List (List Nat)} : ∀ (l : List Oper) (j : Nat), drawOK E all bf j l = true → ∀ k o, l[k]? = some o →
    (∀ x ∈ bf.getD (j + k) [], x < j + k) ∧ standsWith E all bf (j + k) o 0 all = true
  | [], j, h, k, o, hk => by simp at hk
  | p :: l, j, h, k, o, hk => by
    simp only [drawOK, Bool.and_eq_true, boundL_iff] at h
    cases k with
    | zero =>
      simp only [List.getElem?_cons_zero, Option.some.injEq] at hk
      subst hk
      exact h.1
    | succ k =>
      simp only [List.getElem?_cons_succ] at hk
      have := drawOK_spec l (j + 1) h.2 k o hk
      rwa [show j + 1 + k = j + (k + 1) from by omega] at this
end
end Go.Vm

/- Vm, part 19: regions are right. Own work. -/
set_option linter.unusedVariables false
set_option linter.unusedSimpArgs false
set_option linter.unusedSectionVars false
namespace Go.Vm
variable [MonotC]
open Go.RowKit
section
variable {P : Program} {E : Env} {c : Cx} {S : St} {μ : Nat → Value} {a : Act} {w : World} {o : Oper} {al n : Nat} {ds : List Nat} {ρ : Type} {r : ρ} {K : St → Option ρ} {next : Act → World → Prop} {Q : Exit → Act → World → Prop}
theorem oidsL_set {l : List PV} {t : Nat} {v : PV} {x : Nat} (h : x ∈ PV.oidsL (l.set t v)) : x ∈ PV.oidsL l ∨ x ∈ v.oids := by
  induction l generalizing t with
  | nil => simp [PV.oidsL] at h
  | cons u l ih =>
    cases t with
    | zero => simp only [List.set_cons_zero, PV.oidsL, List.mem_append] at h ⊢; rcases h with h | h; exact .inr h; exact .inl (.inr h)
    | succ t => simp only [List.set_cons_succ, PV.oidsL, List.mem_append] at h ⊢; rcases h with h | h; exact .inl (.inl h); exact (ih h).imp .inr id
structure Inv (hb : Bool) (base N : Nat) (L : Nat → Bool) (S : St) : Prop where
  len : base + N ≤ S.objs.length
  slots : ∀ x ∈ PV.oidsL S.slots, x < base ∨ base + N ≤ x ∨ ∃ k, x = base + k ∧ L k = true
  objs : ∀ b ∈ S.objs, ∀ x ∈ b.oids, x < base ∨ base + N ≤ x ∨ ∃ k, x = base + k ∧ L k = true
  dead : ∀ k, k < N → L k = false → S.ob (base + k) = .dead
  topS : ∀ x ∈ PV.oidsL S.slots, x < S.objs.length
  topO : ∀ b ∈ S.objs, ∀ x ∈ b.oids, x < S.objs.length
  noit : hb = true → ∀ k, k < N → isIter (S.ob (base + k)) = false
variable {hb : Bool}
theorem Inv.fresh {base N : Nat} {L : Nat → Bool} (h : Inv hb base N L S) {i : Nat} (hi : i < N) (hL : L i = false) : Fresh S (base + i) := by
  have no : ¬ (base + i < base ∨ base + N ≤ base + i ∨ ∃ k, base + i = base + k ∧ L k = true) := by
    rintro (h | h | ⟨k, h1, h2⟩)
    · omega
    · omega
    · have : k = i := by omega
      subst this; rw [hL] at h2; cases h2
  exact ⟨h.dead i hi hL, fun hx => no (h.slots _ hx), fun o hx => by obtain ⟨b, hb, hx⟩ := ob_oids_mem hx; exact no (h.objs b hb _ hx)⟩
theorem Res.inv {all : List Oper} {bf : List (List Nat)} {base i : Nat} {L : Nat → Bool} {v : PV} {b : Option OB} (h : Inv (hasBig E bf 0 all) base all.length L S) (hi : i < all.length) (hbs : ∀ k ∈ bf.getD i [], L k = true) (hr : Res E all bf base i o S v b) :
    Inv (hasBig E bf 0 all) base all.length (addL L i) (S.add (base + i) o.dst v b) := by
  have hlen : base + i < S.objs.length := by have := h.len; omega
  have old : ∀ x, (x < base ∨ base + all.length ≤ x ∨ ∃ k, x = base + k ∧ L k = true) → x < base ∨ base + all.length ≤ x ∨ ∃ k, x = base + k ∧ addL L i k = true := fun x hx =>
    hx.imp id (Or.imp id fun ⟨k, h1, h2⟩ => ⟨k, h1, by simp [addL, h2]⟩)
  have new : ∀ x ∈ v.oids ++ obOids b, x < base ∨ base + all.length ≤ x ∨ ∃ k, x = base + k ∧ addL L i k = true := by
    intro x hx
    obtain ⟨_, ⟨_, rfl, rfl⟩ | ⟨_, _, hok, _⟩⟩ := hr
    · simp [PV.oids, obOids] at hx
    · rw [okOid_iff] at hok
      rcases hok x hx with hv | rfl
      · rcases Nat.lt_or_ge x base with h1 | h1
        · exact .inl h1
        · rcases Nat.lt_or_ge x (base + all.length) with h2 | h2
          · have hk : x - base < all.length := by omega
            rw [show x = base + (x - base) from by omega, vis_in hk] at hv
            exact .inr (.inr ⟨x - base, by omega, by simp [addL, hbs _ hv]⟩)
          · exact .inr (.inl h2)
      · exact .inr (.inr ⟨i, rfl, addL_same L i⟩)
  have newT : ∀ x ∈ v.oids ++ obOids b, x < S.objs.length := by
    intro x hx
    obtain ⟨_, ⟨_, rfl, rfl⟩ | ⟨_, _, _, hbd, _⟩⟩ := hr
    · simp [PV.oids, obOids] at hx
    · rw [boundL_iff] at hbd
      exact hbd x hx
  have noi : hasBig E bf 0 all = true → noItO b = true := fun hh => by
    obtain ⟨_, ⟨_, rfl, rfl⟩ | ⟨_, _, _, _, hn⟩⟩ := hr
    · rfl
    · exact hn hh
  refine ⟨by rw [add_len hlen]; exact h.len, fun x hx => ?_, fun b' hb' x hx => ?_, fun k hk hLk => ?_, fun x hx => ?_, fun b' hb' x hx => ?_, fun hh k hk => ?_⟩
  rotate_left 3
  · rw [add_len hlen]
    rw [add_slots] at hx
    cases hd : o.dst with
    | none => rw [hd] at hx; exact h.topS x hx
    | some t =>
      rw [hd] at hx
      rcases oidsL_set hx with hx | hx
      · exact h.topS x hx
      · exact newT x (by simp [hx])
  · rw [add_len hlen]
    rw [add_objs hlen] at hb'
    cases b with
    | none => exact h.topO b' hb' x hx
    | some b =>
      rcases List.mem_or_eq_of_mem_set hb' with hb' | rfl
      · exact h.topO b' hb' x hx
      · exact newT x (by simp [obOids, hx])
  · have := h.noit hh k hk
    simp only [St.ob, List.getD, add_objs hlen] at this ⊢
    cases b with
    | none => exact this
    | some b =>
      simp only [List.getElem?_set]
      by_cases e : base + i = base + k
      · rw [if_pos e, if_pos (by omega)]
        simpa [noItO] using noi hh
      · rw [if_neg e]; exact this
  · rw [add_slots] at hx
    cases hd : o.dst with
    | none => rw [hd] at hx; exact old x (h.slots x hx)
    | some t =>
      rw [hd] at hx
      rcases oidsL_set hx with hx | hx
      · exact old x (h.slots x hx)
      · exact new x (by simp [hx])
  · rw [add_objs hlen] at hb'
    cases b with
    | none => exact old x (h.objs b' hb' x hx)
    | some b =>
      rcases List.mem_or_eq_of_mem_set hb' with hb' | rfl
      · exact old x (h.objs b' hb' x hx)
      · exact new x (by simp [obOids, hx])
  · have hne : k ≠ i := fun e => by subst e; rw [addL_same] at hLk; cases hLk
    rw [addL_other L hne] at hLk
    have := h.dead k hk hLk
    simp only [St.ob, List.getD, add_objs hlen] at this ⊢
    cases b with
    | none => exact this
    | some b => simp only [List.getElem?_set]; rw [if_neg (by omega)]; exact this
/-- a quiet operation that may be next -/
theorem quiet_pick (hE : EnvOK P E) {ops : Array Oper} {bf : List (List Nat)} {base i : Nat} {L : Nat → Bool} {v : PV} {b : Option OB} (hsr : SR c S μ a w) (h : Inv hb base ops.toList.length L S) (hi : i < ops.toList.length) (hL : L i = false)
    (hr : Res E ops.toList bf base i o S v b) (hd : ∀ t, o.dst = some t → t ∈ ds) (hn : n ≤ base)
    (hnext : ∀ μ' a' w', SR c (S.add (base + i) o.dst v b) μ' a' w' → Ag n ds S μ (S.add (base + i) o.dst v b) μ' → next a' w') :
    if Region.wanted o (yielded ops a.tmps) then o.wp P a w next Q ∨ (o.asks P a w ∧ LetsOut Q) else next (a.put o.dst Go.undef) w := by
  have hlen : base + i < S.objs.length := by have := h.len; omega
  have hfr := h.fresh hi hL
  rw [wanted_known hsr hr.1]
  obtain ⟨_, ⟨hw, rfl, rfl⟩ | ⟨hw, hq, hok, _⟩⟩ := hr
  · rw [hw]
    simp only [Bool.false_eq_true, if_false]
    obtain ⟨h1, h2⟩ := hsr.skip (o := o) (ds := ds) (n := n) hd (by omega)
    exact hnext μ _ _ h1 h2
  · rw [hw, if_pos rfl]
    refine .inl ?_
    rw [okOid_iff] at hok
    generalize hbs : seen E ops.toList bf i = bs at *
    have hob : ∀ x, (S.mask base ops.toList.length bs).ob x = S.ob x ∨ (S.mask base ops.toList.length bs).ob x = .dead := fun x => by
      rw [mask_ob]; cases vis base ops.toList.length bs x
      · exact .inr rfl
      · exact .inl rfl
    have hlat : ∀ x, Later S.ob μ (S.mask base ops.toList.length bs).ob μ x := fun x => by
      unfold Later
      rcases hob x with e | e
      · rw [e]; cases S.ob x <;> simp
      · rw [e]; trivial
    have hs1 : Slots w (av c S.ob μ) (S.mask base ops.toList.length bs).ob μ (S.mask base ops.toList.length bs).slots a :=
      hsr.slots.later (Keep.refl None w) (fun _ _ h => h) (fun _ h => h.elim) (fun x _ => hlat x)
    have hal : ∀ x, ((S.mask base ops.toList.length bs).ob x).alive = true → (S.ob x).alive = true := fun x hx => by
      rcases hob x with e | e
      · rw [← e]; exact hx
      · rw [e] at hx; cases hx
    have hO1 : Objs w (av c S.ob μ) (S.mask base ops.toList.length bs).ob μ := by
      refine ⟨fun x => ?_, fun x y z h1 h2 h3 h4 => hsr.objs.apart x y z (hal x h1) (hal y h2) h3 h4, fun x hx => ?_, hsr.objs.old, hsr.objs.lay⟩
      · exact (hsr.objs.each x).later (Keep.refl None w) (fun _ _ h => h) (fun _ h => h.elim) (hob x) (fun _ => rfl) (fun z h1 h2 => ⟨fun h => h.elim, own_lt hsr ⟨x, h1, h2⟩⟩) (fun z _ => hlat z)
      · obtain ⟨y, h1, h2⟩ := hx; exact .inr ⟨y, hal y h1, h2⟩
    have hf1 : Fresh (S.mask base ops.toList.length bs) (base + i) := by
      refine ⟨?_, hfr.slots, fun x hx => ?_⟩
      · rcases hob (base + i) with e | e
        · rw [e]; exact hfr.dead
        · exact e
      · rcases hob x with e | e
        · rw [e] at hx; exact hfr.objs x hx
        · rw [e] at hx; simp [OB.oids] at hx
    refine quietD hE hs1 hO1 hf1 hq (fun val w' hkeep hv => ?_)
    have hvis : ∀ x ∈ v.oids ++ obOids b, x ≠ base + i → (S.mask base ops.toList.length bs).ob x = S.ob x := fun x hx hne => by
      rcases hok x hx with h1 | h1
      · rw [mask_ob, h1]; rfl
      · exact absurd h1 hne
    have hadd : ∃ μ', SR c (S.add (base + i) o.dst v b) μ' (a.put o.dst val) w' ∧ (∀ n ds, (∀ t, o.dst = some t → t ∈ ds) → n ≤ base + i → n ≤ S.objs.length → Ag n ds S μ (S.add (base + i) o.dst v b) μ') := by
      refine hsr.add hkeep (fun _ _ => hfr) ?_
      cases b with
      | none =>
        have hdead : ∀ x ∈ v.oids, x = base + i → S.ob x = .dead := fun x _ e => by rw [e]; exact hfr.dead
        refine VR.later (Keep.refl None w') (fun _ _ h => h) (fun _ h => h.elim) (fun x hx => ?_) hv
        unfold Later
        by_cases e : x = base + i
        · rw [hdead x hx e]; trivial
        · rw [hvis x (by simp [hx]) e]; cases S.ob x <;> simp
      | some b =>
        obtain ⟨mv, h1, h2, h3⟩ := hv
        have hl2 : ∀ x ∈ v.oids ++ obOids (some b), Later (upd (S.mask base ops.toList.length bs).ob (base + i) b) (upd μ (base + i) mv) (upd S.ob (base + i) b) (upd μ (base + i) mv) x := fun x hx => by
          unfold Later
          by_cases e : x = base + i
          · subst e; rw [upd_same, upd_same]; cases b <;> simp
          · rw [upd_other _ _ e, upd_other _ _ e, hvis x hx e]; cases S.ob x <;> simp
        refine ⟨mv, h1, ?_, VR.later (Keep.refl None w') (fun _ _ h => h) (fun _ h => h.elim) (fun x hx => hl2 x (by simp [hx])) h3⟩
        exact h2.later (Keep.refl None w') (fun _ _ h => h) (fun _ h => h.elim) (.inl (by rw [upd_same, upd_same])) (fun _ => rfl) (fun z _ hz => ⟨fun h => h.elim, by rw [upd_same] at hz; exact (h1 z hz).2⟩) (fun x hx => hl2 x (by rw [upd_same] at hx; simp [obOids, hx]))
    obtain ⟨μ', h1, h2⟩ := hadd
    exact hnext μ' _ _ h1 (h2 n ds hd (by omega) (by omega))

theorem oidsL_get {l : List PV} {i : Nat} {u : PV} {x : Nat} (h : l[i]? = some u) (hx : x ∈ u.oids) : x ∈ PV.oidsL l := by
  induction l generalizing i with
  | nil => simp at h
  | cons v l ih =>
    simp only [PV.oidsL, List.mem_append]
    cases i with
    | zero => simp at h; subst h; exact .inl hx
    | succ i => exact .inr (ih (by simpa using h))
theorem setPath_oids : ∀ (p : List Nat) (v y : PV) (x : Nat), x ∈ (setPath v p y).oids → x ∈ v.oids ∨ x ∈ y.oids
  | [], v, y, x, h => by
    have : setPath v [] y = y := by cases v <;> rfl
    rw [this] at h
    exact .inr h
  | i :: p, v, y, x, h => by
    cases v with
    | agg l =>
      simp only [setPath, PV.oids] at h
      rcases oidsL_set h with h | h
      · exact .inl h
      · rcases setPath_oids p _ y x h with h | h
        · left
          simp only [PV.oids]
          rw [List.getD] at h
          cases hl : l[i]? with
          | none => rw [hl] at h; simp [PV.oids] at h
          | some u =>
            rw [hl] at h
            exact oidsL_get hl h
        · exact .inr h
    | _ => exact .inl h
theorem storeV_oids {t : Nat} {pa px : PV} {p : Nat × OB} (h : storeV E t pa px S.ob = some p) : ∀ x ∈ p.2.oids, x ∈ (S.ob p.1).oids ∨ x ∈ px.oids := by
  unfold storeV at h
  split at h
  · split at h
    · rename_i o q
      split at h
      · rename_i e v hob
        obtain ⟨_, h⟩ := cond_some h
        cases h
        intro x hx
        simp only [OB.oids] at hx
        simp only [hob, OB.oids]
        exact setPath_oids q v px x hx
      · cases h
    · rename_i o i q
      split at h
      · rename_i T xs hob
        obtain ⟨_, h⟩ := cond_some h
        obtain ⟨y, _, h⟩ := optK_some h
        obtain ⟨_, h⟩ := cond_some h
        cases h
        intro x hx
        simp only [OB.oids, List.not_mem_nil] at hx
      · cases h
    · cases h
  · cases h
theorem storeV_noit {t : Nat} {pa px : PV} {p : Nat × OB} (h : storeV E t pa px S.ob = some p) : isIter p.2 = false := by
  unfold storeV at h
  split at h
  · split at h
    · split at h
      · obtain ⟨_, h⟩ := cond_some h
        cases h; rfl
      · cases h
    · split at h
      · obtain ⟨_, h⟩ := cond_some h
        obtain ⟨y, _, h⟩ := optK_some h
        obtain ⟨_, h⟩ := cond_some h
        cases h; rfl
      · cases h
    · cases h
  · cases h
theorem put_oids {S : St} {d : Option Tmp} {v : PV} {x : Nat} (h : x ∈ PV.oidsL (S.put d v).slots) : x ∈ PV.oidsL S.slots ∨ x ∈ v.oids := by
  cases d with
  | none => exact .inl h
  | some t => exact oidsL_set h
theorem stV_noit {p : (Nat × OB) × PV} (h : stV E o S = some p) : isIter p.1.2 = false := by
  unfold stV at h
  split at h
  · obtain ⟨q, h1, rfl⟩ := Option.map_eq_some_iff.1 h
    exact storeV_noit h1
  · obtain ⟨T, xs, ys, n, _, h2, _, _⟩ := copyV_some h
    rw [h2]; rfl
  · cases h
theorem stV_alive {p : (Nat × OB) × PV} (h : stV E o S = some p) : (S.ob p.1.1).alive = true := by
  unfold stV at h
  split at h
  · obtain ⟨q, h1, rfl⟩ := Option.map_eq_some_iff.1 h
    exact storeV_len h1
  · obtain ⟨T, xs, ys, n, h2, _, _, _⟩ := copyV_some h
    rw [h2]; rfl
  · cases h
theorem stV_val {p : (Nat × OB) × PV} (h : stV E o S = some p) : p.2.oids = [] := by
  unfold stV at h
  split at h
  · obtain ⟨q, h1, rfl⟩ := Option.map_eq_some_iff.1 h
    rfl
  · obtain ⟨T, xs, ys, n, _, _, _, h2⟩ := copyV_some h
    rw [h2]; rfl
  · cases h
theorem stV_oids {p : (Nat × OB) × PV} (h : stV E o S = some p) : ∀ y ∈ p.1.2.oids, y ∈ (S.ob p.1.1).oids ∨ y ∈ PV.oidsL S.slots := by
  unfold stV at h
  split at h
  · obtain ⟨q, h1, rfl⟩ := Option.map_eq_some_iff.1 h
    exact fun y hy => (storeV_oids h1 y hy).imp id opd_oids
  · obtain ⟨T, xs, ys, n, _, h2, _, _⟩ := copyV_some h
    rw [h2]
    intro y hy
    simp only [OB.oids, List.not_mem_nil] at hy
  · cases h
theorem StoreRes.inv {base N : Nat} {L : Nat → Bool} {i : Nat} {S' : St} (h : StoreRes E o S S') (hinv : Inv hb base N L S) : Inv hb base N (addL L i) S' := by
  obtain ⟨_, p, hp, rfl⟩ := h
  have hL : ∀ y, (y < base ∨ base + N ≤ y ∨ ∃ k, y = base + k ∧ L k = true) → (y < base ∨ base + N ≤ y ∨ ∃ k, y = base + k ∧ addL L i k = true) := fun y hy =>
    hy.imp id (Or.imp id fun ⟨k, h1, h2⟩ => ⟨k, h1, by simp [addL, h2]⟩)
  have hal := stV_alive hp
  have hsl : ∀ y ∈ PV.oidsL ((S.setOb p.1.1 p.1.2).put o.dst p.2).slots, y ∈ PV.oidsL S.slots := fun y hy => by
    rcases put_oids hy with h | h
    · exact h
    · rw [stV_val hp] at h; cases h
  have hobj : ((S.setOb p.1.1 p.1.2).put o.dst p.2).objs = S.objs.set p.1.1 p.1.2 := by rw [put_objs]; rfl
  have hob : ∀ y, ((S.setOb p.1.1 p.1.2).put o.dst p.2).ob y = (S.objs.set p.1.1 p.1.2).getD y .dead := fun y => by rw [St.ob, hobj]
  refine ⟨by rw [hobj]; simpa using hinv.len, fun y hy => hL y (hinv.slots y (hsl y hy)), fun b hb y hy => ?_, fun k hk hLk => ?_, fun y hy => ?_, fun b hb y hy => ?_, fun hh k hk => ?_⟩
  rotate_left 2
  · rw [hobj, List.length_set]; exact hinv.topS y (hsl y hy)
  · rw [hobj] at hb ⊢
    simp only [List.length_set]
    rcases List.mem_or_eq_of_mem_set hb with hb | rfl
    · exact hinv.topO b hb y hy
    · rcases stV_oids hp y hy with h | h
      · obtain ⟨b, hb, hx⟩ := ob_oids_mem h
        exact hinv.topO b hb y hx
      · exact hinv.topS y h
  · have h1 := hinv.noit hh k hk
    rw [hob]
    by_cases e : p.1.1 = base + k
    · rw [← e, List.getD, List.getElem?_set_self (by have := hinv.len; omega)]
      exact stV_noit hp
    · rw [List.getD, List.getElem?_set_ne e]
      exact h1
  · rw [hobj] at hb
    rcases List.mem_or_eq_of_mem_set hb with hb | rfl
    · exact hL y (hinv.objs b hb y hy)
    · rcases stV_oids hp y hy with h | h
      · obtain ⟨b, hb, hx⟩ := ob_oids_mem h
        exact hL y (hinv.objs b hb y hx)
      · exact hL y (hinv.slots y h)
  · have hLk' : L k = false := by
      cases hLk2 : L k
      · rfl
      · simp [addL, hLk2] at hLk
    have hd := hinv.dead k hk hLk'
    have hne : p.1.1 ≠ base + k := fun e => by rw [e, hd] at hal; cases hal
    rw [hob, List.getD, List.getElem?_set_ne hne]
    exact hd
theorem fresh_bool (h : Fresh S al) : S.fresh al = true := by
  simp only [St.fresh, Bool.and_eq_true, Bool.not_eq_true', ← Bool.not_eq_true, mem_iff, noOid_iff]
  refine ⟨by rw [h.dead]; simp [OB.alive], h.slots, fun b hb hx => ?_⟩
  obtain ⟨i, hi, rfl⟩ := List.mem_iff_getElem.1 hb
  refine h.objs i ?_
  rw [St.ob, List.getD, List.getElem?_eq_getElem hi]
  exact hx
theorem AppRes.inv {base N : Nat} {L : Nat → Bool} {i : Nat} {S' : St} (h : AppRes E o S (base + i) S') (hinv : Inv hb base N L S) (hi : i < N) : Inv hb base N (addL L i) S' := by
  obtain ⟨c, p, hop, hp, rfl⟩ := h
  have hlen := hinv.len
  have hal : base + i < S.objs.length := by omega
  have hL : ∀ y, (y < base ∨ base + N ≤ y ∨ ∃ k, y = base + k ∧ L k = true) → (y < base ∨ base + N ≤ y ∨ ∃ k, y = base + k ∧ addL L i k = true) := fun y hy =>
    hy.imp id (Or.imp id fun ⟨k, h1, h2⟩ => ⟨k, h1, by simp [addL, h2]⟩)
  obtain ⟨⟨T, ys, hrow⟩, hkill⟩ := appV_some hp
  have hsl : ∀ y ∈ PV.oidsL (appSt S (base + i) o.dst p).slots, y ∈ PV.oidsL S.slots ∨ y = base + i := fun y hy => by
    rw [appSt_slots] at hy
    cases hd : o.dst with
    | none => rw [hd] at hy; exact .inl hy
    | some t =>
      rw [hd] at hy
      rcases oidsL_set hy with h | h
      · exact .inl h
      · exact .inr (by simpa [PV.oids] using h)
  have hobj : ∀ b ∈ (appSt S (base + i) o.dst p).objs, b ∈ S.objs ∨ b.oids = [] := fun b hb => by
    rw [appSt_objs hal] at hb
    rcases List.mem_or_eq_of_mem_set hb with hb | rfl
    · rcases hkill with e | ⟨ob, U, zs, e, _⟩
      · rw [e] at hb; exact .inl hb
      · rw [e] at hb
        rcases List.mem_or_eq_of_mem_set hb with hb | rfl
        · exact .inl hb
        · exact .inr rfl
    · exact .inr (by rw [hrow]; rfl)
  have hob : ∀ y, y ≠ base + i → (appSt S (base + i) o.dst p).ob y = S.ob y ∨ (appSt S (base + i) o.dst p).ob y = .dead := fun y hy => by
    simp only [St.ob, appSt_objs hal, List.getD]
    rw [List.getElem?_set_ne (fun e => hy e.symm)]
    rcases hkill with e | ⟨ob, U, zs, e, _⟩
    · rw [e]; exact .inl rfl
    · rw [e]
      simp only
      by_cases e2 : ob = y
      · subst e2
        rcases Nat.lt_or_ge ob S.objs.length with h | h
        · rw [List.getElem?_set_self h]; exact .inr rfl
        · rw [List.getElem?_eq_none (by simpa using h)]; exact .inr rfl
      · rw [List.getElem?_set_ne e2]; exact .inl rfl
  have hself : (appSt S (base + i) o.dst p).ob (base + i) = p.2 := by
    simp only [St.ob, appSt_objs hal, List.getD]
    rw [List.getElem?_set_self (by rcases hkill with e | ⟨ob, U, zs, e, _⟩ <;> rw [e] <;> simpa using hal)]
    rfl
  refine ⟨by rw [appSt_len hal]; exact hlen, fun y hy => ?_, fun b hb y hy => ?_, fun k hk hLk => ?_, fun y hy => ?_, fun b hb y hy => ?_, fun hh k hk => ?_⟩
  · rcases hsl y hy with h | rfl
    · exact hL y (hinv.slots y h)
    · exact .inr (.inr ⟨i, rfl, addL_same L i⟩)
  · rcases hobj b hb with h | h
    · exact hL y (hinv.objs b h y hy)
    · rw [h] at hy; cases hy
  · have hki : k ≠ i := fun e => by rw [e, addL_same] at hLk; cases hLk
    rw [addL_other _ hki] at hLk
    rcases hob (base + k) (by omega) with h | h
    · rw [h]; exact hinv.dead k hk hLk
    · exact h
  · rw [appSt_len hal]
    rcases hsl y hy with h | rfl
    · exact hinv.topS y h
    · exact hal
  · rw [appSt_len hal]
    rcases hobj b hb with h | h
    · exact hinv.topO b h y hy
    · rw [h] at hy; cases hy
  · by_cases e : k = i
    · subst e; rw [hself, hrow]; rfl
    · rcases hob (base + k) (by omega) with h | h
      · rw [h]; exact hinv.noit hh k hk
      · rw [h]; rfl
/-! ### A call that makes objects -/
theorem noItFrom_iff : ∀ {n i : Nat}, noItFrom S i n = true → ∀ k, k < n → isIter (S.ob (i + k)) = false
  | 0, i, _, k, hk => by omega
  | n + 1, i, h, k, hk => by
    simp only [noItFrom, Bool.and_eq_true, Bool.not_eq_true'] at h
    cases k with
    | zero => exact h.1
    | succ k => rw [show i + (k + 1) = i + 1 + k from by omega]; exact noItFrom_iff h.2 k (by omega)
theorem reach_mono {M : St} : ∀ (n : Nat) (l acc : List Nat) (x : Nat), x ∈ acc → x ∈ reach M n l acc
  | 0, l, acc, x, h => h
  | n + 1, [], acc, x, h => h
  | n + 1, o :: l, acc, x, h => by
    simp only [reach]
    cases mem o acc
    · exact reach_mono n _ _ x (by simp [h])
    · exact reach_mono n _ _ x h
theorem seesTop_of {bf : List (List Nat)} {bs : List Nat} {i : Nat} : ∀ (l : List Oper) (k : Nat), (∀ m p, l[m]? = some p → isBig E bf (k + m) p = true → (k + m < i → k + m ∈ bs) ∧ (i < k + m → i ∈ bf.getD (k + m) [])) → seesTop E bf bs i k l = true
  | [], k, h => rfl
  | q :: l, k, h => by
    simp only [seesTop, Bool.and_eq_true]
    refine ⟨?_, seesTop_of l (k + 1) (fun m p h1 h2 => by
      have := h (m + 1) p (by simpa using h1) (by rwa [show k + (m + 1) = k + 1 + m from by omega])
      rwa [show k + (m + 1) = k + 1 + m from by omega] at this)⟩
    cases hk : isBig E bf k q
    · rfl
    · have := h 0 q rfl (by simpa using hk)
      simp only [Nat.add_zero] at this
      rw [cond_true]
      rcases Nat.lt_trichotomy k i with h1 | h1 | h1
      · rw [show Nat.blt k i = true from by simpa using h1, cond_true, mem_iff]
        exact this.1 h1
      · subst h1
        rw [show Nat.blt k k = false from by rw [← Bool.not_eq_true]; simp, cond_false, Nat.beq_refl]
        rfl
      · rw [show Nat.blt k i = false from by rw [← Bool.not_eq_true]; simp; omega, cond_false, Bool.or_eq_true, mem_iff]
        exact .inr (this.2 h1)
theorem top_seen {all : List Oper} {bf : List (List Nat)} {i : Nat} (h : ∀ m p, all[m]? = some p → isBig E bf m p = true → (m < i → m ∈ bf.getD i []) ∧ (i < m → i ∈ bf.getD m [])) : mem all.length (seen E all bf i) = true := by
  unfold seen
  rw [seesTop_of all 0 (fun m p h1 h2 => by simpa using h m p h1 (by simpa using h2)), cond_true, mem_iff]
  simp
theorem hasBig_of {bf : List (List Nat)} : ∀ (l : List Oper) (j k : Nat) (p : Oper), l[k]? = some p → isBig E bf (j + k) p = true → hasBig E bf j l = true
  | [], j, k, p, h, _ => by simp at h
  | q :: l, j, k, p, h, hb => by
    simp only [hasBig, Bool.or_eq_true]
    cases k with
    | zero =>
      simp only [List.getElem?_cons_zero, Option.some.injEq] at h
      subst h
      exact .inl hb
    | succ k =>
      simp only [List.getElem?_cons_succ] at h
      exact .inr (hasBig_of l (j + 1) k p h (by rwa [show j + 1 + k = j + (k + 1) from by omega]))
theorem oidsO_mem {b : OB} {x : Nat} : ∀ {l : List OB}, b ∈ l → x ∈ b.oids → x ∈ oidsO l
  | [], h, _ => by cases h
  | c :: l, h, hx => by
    simp only [oidsO, List.mem_append]
    rcases List.mem_cons.1 h with rfl | h
    · exact .inl hx
    · exact .inr (oidsO_mem h hx)
theorem BigRes.inv {all : List Oper} {bf : List (List Nat)} {base j : Nat} {L : Nat → Bool} {v : PV} {new : List OB} (hinv : Inv hb base all.length L S) (hbs : ∀ k ∈ bf.getD j [], L k = true) (hr : BigRes E all bf base j o S v new) :
    Inv hb base all.length (addL L j) (S.app o.dst v new) := by
  obtain ⟨_, hok, hbd⟩ := hr
  rw [okOid_iff] at hok
  rw [boundL_iff] at hbd
  have old : ∀ x, (x < base ∨ base + all.length ≤ x ∨ ∃ k, x = base + k ∧ L k = true) → x < base ∨ base + all.length ≤ x ∨ ∃ k, x = base + k ∧ addL L j k = true := fun x hx =>
    hx.imp id (Or.imp id fun ⟨k, h1, h2⟩ => ⟨k, h1, by simp [addL, h2]⟩)
  have nw : ∀ x ∈ v.oids ++ oidsO new, x < base ∨ base + all.length ≤ x ∨ ∃ k, x = base + k ∧ addL L j k = true := fun x hx => by
    rcases hok x hx with hv | rfl
    · rcases Nat.lt_or_ge x base with h1 | h1
      · exact .inl h1
      · rcases Nat.lt_or_ge x (base + all.length) with h2 | h2
        · have hk : x - base < all.length := by omega
          rw [show x = base + (x - base) from by omega, vis_in hk] at hv
          exact .inr (.inr ⟨x - base, by omega, by simp [addL, hbs _ hv]⟩)
        · exact .inr (.inl h2)
    · exact .inr (.inr ⟨j, rfl, addL_same L j⟩)
  have hl : (S.app o.dst v new).objs.length = S.objs.length + new.length := by rw [app_objs, List.length_append]
  have hsl : ∀ x ∈ PV.oidsL (S.app o.dst v new).slots, x ∈ PV.oidsL S.slots ∨ x ∈ v.oids := fun x hx => by
    rw [app_slots] at hx
    cases hd : o.dst with
    | none => rw [hd] at hx; exact .inl hx
    | some t => rw [hd] at hx; exact oidsL_set hx
  have hlen := hinv.len
  have hobk : ∀ k, k < all.length → (S.app o.dst v new).ob (base + k) = S.ob (base + k) := fun k hk => by
    simp only [St.ob, app_objs, List.getD]
    rw [List.getElem?_append_left (by omega)]
  refine ⟨by omega, fun x hx => ?_, fun b hb x hx => ?_, fun k hk hLk => ?_, fun x hx => ?_, fun b hb x hx => ?_, fun hh k hk => ?_⟩
  · rcases hsl x hx with h | h
    · exact old x (hinv.slots x h)
    · exact nw x (by simp [h])
  · rw [app_objs] at hb
    rcases List.mem_append.1 hb with hb | hb
    · exact old x (hinv.objs b hb x hx)
    · exact nw x (by simp [oidsO_mem hb hx])
  · rw [hobk k hk]
    refine hinv.dead k hk ?_
    cases hLk2 : L k
    · rfl
    · simp [addL, hLk2] at hLk
  · rw [hl]
    rcases hsl x hx with h | h
    · have := hinv.topS x h; omega
    · exact hbd x (by simp [h])
  · rw [hl]
    rw [app_objs] at hb
    rcases List.mem_append.1 hb with hb | hb
    · have := hinv.topO b hb x hx; omega
    · exact hbd x (by simp [oidsO_mem hb hx])
  · rw [hobk k hk]; exact hinv.noit hh k hk
theorem reach_mask {M S : St} (hob : ∀ x, M.ob x = S.ob x ∨ M.ob x = .dead) : ∀ (n : Nat) (l acc : List Nat), (∀ x ∈ reach M n l acc, (M.ob x).alive = true) → reach S n l acc = reach M n l acc
  | 0, l, acc, _ => rfl
  | n + 1, [], acc, _ => rfl
  | n + 1, o :: l, acc, h => by
    simp only [reach] at h ⊢
    cases hm : mem o acc
    · rw [hm, cond_false] at h
      simp only [cond_false]
      have ho : (M.ob o).alive = true := h o (reach_mono _ _ _ _ (by simp))
      have e : M.ob o = S.ob o := by
        rcases hob o with e | e
        · exact e
        · rw [e] at ho; cases ho
      rw [← e]
      exact reach_mask hob n _ _ h
    · rw [hm, cond_true] at h
      simp only [cond_true]
      exact reach_mask hob n _ _ h
theorem big_evF {all : List Oper} {bf : List (List Nat)} {base j : Nat} {L : Nat → Bool} {v : PV} {new : List OB} (hbig : isBig E bf j o = true) (hh : hasBig E bf 0 all = true) (hinv : Inv (hasBig E bf 0 all) base all.length L S) (ht : mem all.length (seen E all bf j) = true)
    (hr : BigRes E all bf base j o S v new) : evF E o S al (fun S' => some S') = some (S.app o.dst v new) := by
  obtain ⟨c0, g, hop, hc, _, hq, hms, _⟩ := big_call hbig
  obtain ⟨f, hcal, _⟩ := bigFn_some hc
  obtain ⟨h, _, _⟩ := hr
  simp only [bigK, hop, hc] at h
  obtain ⟨M, hM⟩ : ∃ M, M = S.mask base all.length (seen E all bf j) := ⟨_, rfl⟩
  have hob : ∀ x, M.ob x = S.ob x ∨ M.ob x = .dead := fun x => by
    rw [hM, mask_ob]
    cases vis base all.length (seen E all bf j) x
    · exact .inr rfl
    · exact .inl rfl
  have hvs : c0.args.toList.map (opd M) = c0.args.toList.map (opd S) := by rw [hM]; exact List.map_congr_left (fun x _ => opd_mask _ _ _ x)
  have hfM : opd M f = opd S f := by rw [hM]; exact opd_mask _ _ _ f
  have hlen : M.objs.length = S.objs.length := by
    have : ∀ (l : List OB) (i : Nat), (maskFrom base all.length (seen E all bf j) i l).length = l.length := by
      intro l
      induction l with
      | nil => intro i; rfl
      | cons b l ih => intro i; simp only [maskFrom, List.length_cons, ih]
    rw [hM]
    exact this _ _
  rw [← hM] at h
  split at h
  rotate_left
  · cases h
  rename_i vs hba
  obtain ⟨caps, hfS, hvs2⟩ : ∃ caps, opd S f = .func g caps ∧ vs = c0.args.toList.map (opd S) ++ caps := by
    unfold bigArgs at hba
    simp only [hcal, hfM, hvs] at hba
    split at hba
    · rename_i g' caps hf
      obtain ⟨h1, h2⟩ := cond_some hba
      have e : g' = g := by simpa using h1
      subst e
      cases h2
      exact ⟨_, hf, rfl⟩
    · cases hba
  obtain ⟨acc, hacc⟩ : ∃ acc, acc = reach M 1000 (PV.oidsL vs) [] := ⟨_, rfl⟩
  rw [← hacc] at h
  obtain ⟨hg, h⟩ := cond_some h
  simp only [Bool.and_eq_true] at hg
  obtain ⟨hro, ⟨h1, h2, h3, h4, h5⟩, h6⟩ := hg
  have hal : ∀ x ∈ acc, (M.ob x).alive = true := allAlive_iff.1 h1
  have heq : ∀ x ∈ acc, M.ob x = S.ob x := fun x hx => by
    rcases hob x with e | e
    · exact e
    · have := hal x hx; rw [e] at this; cases this
  have hreach : reach S 1000 (PV.oidsL vs) [] = acc := by
    rw [hacc]
    exact reach_mask hob _ _ _ (fun x hx => hal x (by rw [hacc]; exact hx))
  have g1 : allAlive S acc = true := allAlive_iff.2 (fun x hx => by rw [← heq x hx]; exact hal x hx)
  have g3 : closed S acc = true := by
    have : ∀ l : List Nat, (∀ x ∈ l, x ∈ acc) → closed.go S acc l = closed.go M acc l := by
      intro l
      induction l with
      | nil => intro _; rfl
      | cons y l ih =>
        intro hl
        simp only [closed.go, heq y (hl y (by simp)), ih (fun x hx => hl x (by simp [hx]))]
    unfold closed at h3 ⊢
    rw [this acc (fun _ h => h)]
    exact h3
  have g6 : noIters acc S.objs = true := by
    rw [noIters_iff] at h6 ⊢
    intro m hm b hb m' K V s u c e
    have h6 := h6 m hm
    obtain ⟨x, hx, hbx⟩ := List.getElem_of_mem hb
    have hbo : S.ob x = b := by simp [St.ob, List.getD, List.getElem?_eq_getElem hx, hbx]
    have hvis : vis base all.length (seen E all bf j) x = true := by
      unfold vis
      rcases Nat.lt_or_ge x base with h | h
      · have : Nat.blt x base = true := by simpa using h
        rw [this]; rfl
      · rcases Nat.lt_or_ge x (base + all.length) with h' | h'
        · exfalso
          have := hinv.noit hh (x - base) (by omega)
          rw [show base + (x - base) = x from by omega, hbo, e] at this
          cases this
        · have : Nat.ble (base + all.length) x = true := by simpa using h'
          rw [this, cond_true, ht, Bool.or_true]
    have hMo : M.ob x = b := by rw [hM, mask_ob, hvis, cond_true, hbo]
    have hMm : b ∈ M.objs := by
      have : M.objs[x]? = some b := by
        have hx' : x < M.objs.length := by omega
        simp only [St.ob, List.getD, List.getElem?_eq_getElem hx', Option.getD_some] at hMo
        rw [List.getElem?_eq_getElem hx', hMo]
      exact List.mem_of_getElem? this
    exact h6 b hMm m' K V s u c e
  have hmap : acc.map (fun o => (M.ob o).ren (posOf · acc)) = acc.map (fun o => (S.ob o).ren (posOf · acc)) := List.map_congr_left (fun x hx => by rw [heq x hx])
  rw [hmap, hlen] at h
  rw [(E.call g).param] at h
  split at h
  rotate_left
  · cases h
  rename_i p hp
  cases h
  have huns : unseen S = true := by
    unfold unseen
    rw [Bool.and_eq_true, boundL_iff, boundO_iff]
    exact ⟨hinv.topS, hinv.topO⟩
  simp only [evF, hop, hcal, hfS, evCallG, hms, shownIn, List.isEmpty_nil, Bool.not_true, Bool.and_false, cond_false, evCall, prepArgs]
  rw [show c0.args.toList.map (opd S) ++ caps = vs from hvs2.symm]
  simp only [showArgs, optK, hreach, g1, h2, g3, h4, h5, g6, shownIn, List.isEmpty_nil, Bool.true_or, Bool.and_self, Bool.true_and, cond_true]
  rw [(E.call g).param, hp]
  simp only [huns, cond_true]
  have hnew : ∃ new, p.2 = acc.map (fun o => (S.ob o).ren (posOf · acc)) ++ new := by
    rcases Bool.or_eq_true _ _ ▸ hro with h | h
    · rw [List.isEmpty_iff.1 h]
      exact ⟨p.2, rfl⟩
    · exact (E.call g).roOK h _ _ p hp
  obtain ⟨new, hnew⟩ := hnew
  have hcl : ∀ o ∈ acc, ∀ x ∈ (S.ob o).oids, x ∈ acc := closed_iff.1 g3
  have hback : ∀ b : Nat → Nat, b = backOf acc S.objs.length → writeBack b acc p.2 S.objs = S.objs ++ (p.2.drop acc.length).map (OB.ren (backOf acc S.objs.length)) := by
    intro b hb
    subst hb
    rw [hnew, List.drop_left' (by simp)]
    have key : ∀ (l : List Nat), (∀ x ∈ l, x ∈ acc) → writeBack (backOf acc S.objs.length) l (l.map (fun o => (S.ob o).ren (posOf · acc)) ++ new) S.objs = S.objs ++ new.map (OB.ren (backOf acc S.objs.length)) := by
      intro l
      induction l with
      | nil => intro _; simp [writeBack]
      | cons y l ih =>
        intro hl
        simp only [List.map_cons, List.cons_append, writeBack]
        have e : ((S.ob y).ren (posOf · acc)).ren (backOf acc S.objs.length) = S.ob y := OB.ren_ren _ _ (fun x hx => by
          obtain ⟨k1, k2⟩ := posOf_mem (hcl y (hl y (by simp)) x hx)
          unfold backOf
          rw [show Nat.blt (posOf x acc) acc.length = true from by simpa using k1, cond_true]
          exact k2)
        rw [e]
        have hset : S.objs.set y (S.ob y) = S.objs := by
          apply List.ext_getElem?
          intro k
          rw [List.getElem?_set]
          by_cases e : y = k
          · subst e
            simp only [if_true, St.ob, List.getD]
            by_cases hlt : y < S.objs.length
            · rw [if_pos hlt, List.getElem?_eq_getElem hlt]; rfl
            · rw [if_neg hlt, List.getElem?_eq_none (by omega)]
          · rw [if_neg e]
        rw [hset]
        exact ih (fun x hx => hl x (by simp [hx]))
    exact key acc (fun _ h => h)
  rw [hback _ (by funext i; rfl)]
  have ht : cond (E.call g).ro S.touched (acc ++ S.touched) = S.touched := by
    rcases Bool.or_eq_true _ _ ▸ hro with h | h
    · rw [List.isEmpty_iff.1 h]; cases (E.call g).ro <;> rfl
    · rw [h]; rfl
  rw [ht]
  rfl
/-! ### All of them, in whatever order -/
theorem rest_skip {all : List Oper} {bf : List (List Nat)} {base : Nat} {L : Nat → Bool} : ∀ (m j : Nat) (S : St), (∀ k, j ≤ k → k < j + m → L k = true) → j + m ≤ all.length →
    (Rest E all bf base K r L j (all.drop j) S ↔ Rest E all bf base K r L (j + m) (all.drop (j + m)) S)
  | 0, j, S, _, _ => by simp
  | m + 1, j, S, hL, hj => by
    have hlt : j < all.length := by omega
    rw [List.drop_eq_getElem_cons hlt]
    simp only [Rest]
    rw [if_pos (hL j (Nat.le_refl _) (by omega)), rest_skip m (j + 1) S (fun k h1 h2 => hL k (by omega) (by omega)) (by omega)]
    rw [show j + 1 + m = j + (m + 1) from by omega]
theorem countP_lt {p q : Nat → Bool} : ∀ (l : List Nat), (∀ x, q x = true → p x = true) → ∀ x ∈ l, p x = true → q x = false → l.countP q < l.countP p
  | [], _, x, hx, _, _ => by cases hx
  | y :: l, h, x, hx, h1, h2 => by
    have hle : l.countP q ≤ l.countP p := List.countP_mono_left (fun z _ => h z)
    rcases List.mem_cons.1 hx with rfl | hx
    · rw [List.countP_cons_of_pos h1, List.countP_cons_of_neg (by simp [h2])]
      omega
    · have := countP_lt l h x hx h1 h2
      rw [List.countP_cons, List.countP_cons]
      have : (if q y = true then 1 else 0) ≤ (if p y = true then 1 else 0) := by
        by_cases hq : q y = true
        · rw [if_pos hq, if_pos (h y hq)]; exact Nat.le_refl _
        · rw [if_neg hq]; exact Nat.zero_le _
      omega
def ofArr (listed : Array Bool) : Nat → Bool := fun k => listed.getD k false
theorem ofArr_set {listed : Array Bool} {i : Nat} (hi : i < listed.size) : ofArr (listed.setIfInBounds i true) = addL (ofArr listed) i := by
  funext k
  by_cases e : k = i
  · subst e
    rw [addL_same]
    simp [ofArr, hi]
  · rw [addL_other _ e]
    exact getD_set_ne false (fun h => e h.symm)
theorem binds_any (e : Edge) : Region.binds .any e = bindsAlways e := by
  unfold Region.binds bindsAlways
  cases e.ground <;> rfl
theorem mayLate_some {all : List Oper} {i j : Nat} {p : Oper} (h : mayLate all i j o p = true) : ∃ t, loadAt p = some t ∧ isStore0 o = true ∧ isSt o = true ∧ keptFrom t i j 0 all = true := by
  unfold mayLate at h
  split at h
  · rename_i t ht
    simp only [Bool.and_eq_true] at h
    exact ⟨t, ht, h.1, h.2.1, h.2.2⟩
  · cases h
theorem mayApp_some {all : List Oper} {bf : List (List Nat)} {i j : Nat} {p : Oper} (h : mayApp E all bf i j o p = true) : isApp E bf j o = true ∧ (isVarOp p = true ∨ ∃ t, addrAt p = some t ∧ keptFrom t i j 0 all = true) := by
  unfold mayApp at h
  simp only [Bool.and_eq_true, Bool.or_eq_true] at h
  refine ⟨h.1, h.2.imp id fun h => ?_⟩
  split at h
  · rename_i t ht
    exact ⟨t, ht, h⟩
  · cases h
theorem late_none {all : List Oper} {bf : List (List Nat)} {i j : Nat} {p : Oper} (hs : ¬ isStore0 o = true) (ha : ¬ isApp E bf j o = true) : (mayLate all i j o p || mayApp E all bf i j o p) = false := by
  rw [← Bool.not_eq_true, Bool.or_eq_true]
  rintro (h | h)
  · obtain ⟨_, _, h, _⟩ := mayLate_some h
    exact hs h
  · exact ha (mayApp_some h).1
theorem late_quiet {all : List Oper} {bf : List (List Nat)} {i j : Nat} {p : Oper} (hq : ¬ isQuiet E p = true) : (mayLate all i j o p || mayApp E all bf i j o p) = false := by
  rw [← Bool.not_eq_true, Bool.or_eq_true]
  rintro (h | h)
  · obtain ⟨_, h, _⟩ := mayLate_some h
    exact hq (load_quiet h)
  · rcases (mayApp_some h).2 with h | ⟨t, h, _⟩
    · exact hq (pure_quiet (var_pure h))
    · exact hq (addr_quiet h)
theorem draw_any (hE : EnvC P E c) {ops : Array Oper} {bf : List (List Nat)} (hbf : bf = befores ops.toList []) {base : Nat} (hok : drawOK E ops.toList bf 0 ops.toList = true) (hd : ∀ o ∈ ops.toList, ∀ t, o.dst = some t → t ∈ ds) (hn : n ≤ base) {S0 : St} {μ0 : Nat → Value}
    (hQ : ∀ S' μ' a' w', K S' = some r → SR c S' μ' a' w' → Ag n ds S0 μ0 S' μ' → Q .normal a' w') :
    ∀ (fuel : Nat) (listed : Array Bool) (S : St) (μ : Nat → Value) (a : Act) (w : World), listed.size = ops.toList.length → (List.range ops.toList.length).countP (fun k => !ofArr listed k) ≤ fuel →
      (∀ k, k < ops.toList.length → ofArr listed k = true → ∀ x ∈ bf.getD k [], ofArr listed x = true) → Inv (hasBig E bf 0 ops.toList) base ops.toList.length (ofArr listed) S →
      Rest E ops.toList bf base K r (ofArr listed) 0 ops.toList S → SR c S μ a w → Ag n ds S0 μ0 S μ → wpAny P .any ops Q fuel listed a w := by
  have hspec := fun k o hk => drawOK_spec ops.toList 0 hok k o hk
  simp only [Nat.zero_add] at hspec
  have hbfs : ∀ i o, ops.toList[i]? = some o → ∀ x, x ∈ bf.getD i [] ↔ ∃ e ∈ o.after.toList, bindsAlways e = true ∧ (x = e.on ∨ (e.on < i ∧ x ∈ bf.getD e.on [])) := fun i o hi x => by
    have := befores_spec ops.toList [] i o hi x
    rw [← hbf] at this
    simpa using this
  have hfin : ∀ (listed : Array Bool) (S : St) (μ : Nat → Value) (a : Act) (w : World), (∀ k, k < ops.toList.length → ofArr listed k = true) → Rest E ops.toList bf base K r (ofArr listed) 0 ops.toList S → SR c S μ a w → Ag n ds S0 μ0 S μ → Q .normal a w := by
    intro listed S μ a w hall hr hsr hag
    have := (rest_skip (E := E) (K := K) (r := r) (bf := bf) (base := base) (all := ops.toList) (L := ofArr listed) ops.toList.length 0 S (fun k _ h => hall k (by omega)) (by omega)).1 (by simpa using hr)
    rw [Nat.zero_add, List.drop_length] at this
    simp only [Rest] at this
    exact hQ S μ a w this hsr hag
  intro fuel
  induction fuel with
  | zero =>
    intro listed S μ a w hsz hcnt hclo hinv hr hsr hag
    have hall : ∀ k, k < ops.toList.length → ofArr listed k = true := fun k hk => by
      have := Nat.le_zero.1 hcnt
      rw [List.countP_eq_zero] at this
      simpa using this k (List.mem_range.2 hk)
    refine ⟨?_, hfin listed S μ a w hall hr hsr hag⟩
    rw [List.eq_nil_iff_forall_not_mem]
    intro j hj
    rw [mem_ready] at hj
    obtain ⟨h1, o, ho, _⟩ := hj
    have hlt : j < ops.toList.length := by have := (Array.getElem?_eq_some_iff.1 ho).1; simpa using this
    have h2 := hall j hlt
    simp only [ofArr] at h2
    have : j < listed.size := by omega
    simp [this] at h1 h2
    rw [h1] at h2; cases h2
  | succ fuel ih =>
    intro listed S μ a w hsz hcnt hclo hinv hr hsr hag
    refine ⟨fun hnil => ?_, fun i hi => ?_⟩
    · have hall : ∀ k, k < ops.toList.length → ofArr listed k = true := by
        intro k
        induction k using Nat.strongRecOn with
        | _ k ihk =>
          intro hk
          by_cases hL : ofArr listed k = true
          · exact hL
          · exfalso
            have hko : ops.toList[k]? = some (ops.toList[k]'hk) := List.getElem?_eq_getElem hk
            have hm : k ∈ Region.ready .any ops listed := by
              rw [mem_ready]
              refine ⟨?_, _, by rw [← Array.getElem?_toList]; exact hko, fun e he hb => ?_⟩
              · have : k < listed.size := by omega
                simp only [ofArr] at hL
                simp [this] at hL ⊢
                exact hL
              · rw [binds_any] at hb
                have h1 : e.on ∈ bf.getD k [] := (hbfs k _ hko e.on).2 ⟨e, by simpa using he, hb, .inl rfl⟩
                have h2 := (hspec k _ hko).1 e.on h1
                exact ihk e.on h2 (by omega)
            rw [hnil] at hm; cases hm
      exact hfin listed S μ a w hall hr hsr hag
    · rw [mem_ready] at hi
      obtain ⟨h1, o, ho, hpre⟩ := hi
      have hlt : i < ops.toList.length := by have := (Array.getElem?_eq_some_iff.1 ho).1; simpa using this
      have hio : ops.toList[i]? = some o := by simpa using ho
      have hsz' : i < listed.size := by omega
      have hLi : ofArr listed i = false := by
        simp only [ofArr]
        simp [hsz'] at h1 ⊢
        exact h1
      have hbs : ∀ x ∈ bf.getD i [], ofArr listed x = true := fun x hx => by
        obtain ⟨e, he, hb, hx⟩ := (hbfs i o hio x).1 hx
        have hon : ofArr listed e.on = true := hpre e (by simpa using he) (by rw [binds_any]; exact hb)
        rcases hx with rfl | ⟨hlt2, hx⟩
        · exact hon
        · exact hclo e.on (by omega) hon x hx
      have hset := ofArr_set hsz'
      have hcnt' : (List.range ops.toList.length).countP (fun k => !ofArr (listed.setIfInBounds i true) k) ≤ fuel := by
        have := countP_lt (p := fun k => !ofArr listed k) (q := fun k => !ofArr (listed.setIfInBounds i true) k) (List.range ops.toList.length) (fun x hx => by
          rw [hset] at hx
          simp only [addL, Bool.not_eq_true', Bool.or_eq_false_iff] at hx ⊢
          exact hx.2) i (List.mem_range.2 hlt) (by simp [hLi]) (by rw [hset, addL_same]; rfl)
        omega
      have hclo' : ∀ k, k < ops.toList.length → ofArr (listed.setIfInBounds i true) k = true → ∀ x ∈ bf.getD k [], ofArr (listed.setIfInBounds i true) x = true := fun k hk hLk x hx => by
        rw [hset] at hLk ⊢
        have : ofArr listed x = true := by
          by_cases e : k = i
          · subst e; exact hbs x hx
          · rw [addL_other _ e] at hLk; exact hclo k hk hLk x hx
        simp [addL, this]
      have hdo := hd o (List.mem_of_getElem? hio)
      unfold Go.wpOp
      simp only [ho]
      by_cases hq : isQuiet E o = true
      · obtain ⟨v, b, h2, h3⟩ := Rest.pick hio hLi hq hlt ops.toList 0 S rfl (Nat.zero_le _) hinv.len (fun k hki hLk ok hok => by
          have hnk : k ∉ bf.getD i [] := fun hm => by rw [hbs k hm] at hLk; cases hLk
          rcases standsWith_spec ops.toList 0 (hspec i o hio).2 k ok hok (by omega) with h | ⟨g2, g3⟩
          · simp at h; exact absurd h (by simpa using hnk)
          · refine ⟨?_, g3, ?_, ?_⟩
            · rw [late_none (by rintro h; rw [store_not_quiet h] at hq; cases hq) (by rintro h; rw [app_not_quiet h] at hq; cases hq), Bool.or_false] at g2
              simp only [mayPair, Bool.or_eq_true, Bool.and_eq_true] at g2
              rcases g2 with ((⟨_, g⟩ | ⟨g, g'⟩ | ⟨g, g'⟩) | ⟨_, g⟩) | ⟨g, _⟩
              · exact .inl (.inl g)
              · exact .inl (.inr ⟨g, g'⟩)
              · rw [store_not_quiet g] at hq; cases hq
              · exact .inr ⟨by simpa using g, top_hidden hok (by simpa using g) hki hlt hnk (hspec i o hio).1⟩
              · rw [big_not_quiet g] at hq; cases hq
            · rw [← Bool.not_eq_true, vis_in (by omega)]
              exact hnk
            · rw [← Bool.not_eq_true, vis_in hlt]
              intro h
              have := (hspec k ok hok).1 i h; omega) hr
        refine quiet_pick hE.ok hsr hinv hlt hLi h2 hdo hn (fun μ' a' w' h4 h5 => ?_)
        refine ih _ _ μ' a' w' (by simpa using hsz) hcnt' hclo' (by rw [hset]; exact h2.inv hinv hlt hbs) (by rw [hset]; exact h3) h4 (hag.trans h5 (fun _ h => h) (fun _ h => h))
      · by_cases hst : isStore0 o = true
        · obtain ⟨S', h2, _, h3⟩ := Rest.pickStore hio hLi hst hlt (fun k hki hLk ok hok => by
            have hnk : k ∉ bf.getD i [] := fun hm => by rw [hbs k hm] at hLk; cases hLk
            rcases standsWith_spec ops.toList 0 (hspec i o hio).2 k ok hok (by omega) with h | ⟨g2, g3⟩
            · simp at h; exact absurd h (by simpa using hnk)
            · refine ⟨?_, hnk, g3⟩
              rw [Bool.or_eq_true, Bool.or_eq_true, Bool.or_eq_true] at g2
              rcases g2 with ((g2 | g2) | g2) | g2
              rotate_left 2
              · rw [Bool.and_eq_true] at g2; exact absurd g2.1 hq
              · rw [Bool.and_eq_true] at g2; rw [big_not_store g2.1] at hst; cases hst
              · simp only [mayPair, Bool.or_eq_true, Bool.and_eq_true] at g2
                rcases g2 with ⟨g, _⟩ | ⟨g, _⟩ | ⟨_, g⟩
                · exact absurd g hq
                · rw [pure_not_store g] at hst; cases hst
                · exact .inl g
              · rw [Bool.or_eq_true] at g2
                rcases g2 with g2 | g2
                · obtain ⟨t, ht, _, hk0, hk⟩ := mayLate_some g2
                  exact .inr ⟨t, ht, hk0, by simpa using hk⟩
                · rw [app_not_store (mayApp_some g2).1] at hst; cases hst) ops.toList 0 S rfl (Nat.zero_le _) hr
          obtain ⟨_, hgd⟩ := isStore0_some hst
          have hw : Region.wanted o (yielded ops a.tmps) = true := by
            unfold Region.wanted
            rw [hgd]
          rw [hw, if_pos rfl]
          have hl := hinv.len
          refine .inl (evF_sound (K := fun S' => some S') (r := S') (al := base + i) (n := n) (ds := ds) hE hsr (StoreRes.evF (E := E) (al := base + i) h2 _) hdo (by omega) (by omega) (fun S2 μ' a' w' hk hsr' hag' => ?_))
          cases hk
          refine ih _ S' μ' a' w' (by simpa using hsz) hcnt' hclo' ?_ (by rw [hset]; exact h3) hsr' (hag.trans hag' (fun _ h => h) (fun _ h => h))
          rw [hset]
          exact h2.inv hinv
        by_cases hbig : isBig E bf i o = true
        · obtain ⟨v, new, h2, h3⟩ := Rest.pickBig hio hLi hbig hlt ops.toList 0 S rfl (Nat.zero_le _) hinv.len (fun k hki hLk ok hok => by
            have hnk : k ∉ bf.getD i [] := fun hm => by rw [hbs k hm] at hLk; cases hLk
            rcases standsWith_spec ops.toList 0 (hspec i o hio).2 k ok hok (by omega) with h | ⟨g2, g3⟩
            · simp at h; exact absurd h (by simpa using hnk)
            · rw [late_none hst (fun h => by rw [app_not_big (bf' := bf) (j' := i) h] at hbig; cases hbig), Bool.or_false] at g2
              simp only [mayPair, Bool.or_eq_true, Bool.and_eq_true] at g2
              have gq : isQuiet E ok = true := by
                rcases g2 with ((⟨g, _⟩ | ⟨g, _⟩ | ⟨g, _⟩) | ⟨g, _⟩) | ⟨_, g⟩
                · exact absurd g hq
                · exact absurd (pure_quiet g) hq
                · exact absurd g hst
                · exact absurd g hq
                · exact g
              refine ⟨gq, top_hidden2 hio hbig hki (by omega) hnk (hspec k ok hok).1, g3, ?_⟩
              rw [← Bool.not_eq_true, vis_in (by omega)]
              exact hnk) hr
          obtain ⟨_, _, _, _, hgd, _⟩ := big_call hbig
          have hw : Region.wanted o (yielded ops a.tmps) = true := by
            unfold Region.wanted
            rw [hgd]
          rw [hw, if_pos rfl]
          have hl := hinv.len
          have hhb : hasBig E bf 0 ops.toList = true := hasBig_of ops.toList 0 i o hio (by simpa using hbig)
          have htop : mem ops.toList.length (seen E ops.toList bf i) = true := top_seen (fun m p hm hbm => by
            have hmq := big_not_quiet hbm
            have hms := big_not_store hbm
            refine ⟨fun h => ?_, fun h => ?_⟩
            · rcases standsWith_spec ops.toList 0 (hspec i o hio).2 m p hm (by omega) with h | ⟨g2, _⟩
              · simpa using h
              · exfalso
                rw [late_none hst (fun h => by rw [app_not_big (bf' := bf) (j' := i) h] at hbig; cases hbig), Bool.or_false] at g2
                simp only [mayPair, Bool.or_eq_true, Bool.and_eq_true] at g2
                rcases g2 with ((⟨g, _⟩ | ⟨g, _⟩ | ⟨g, _⟩) | ⟨g, _⟩) | ⟨_, g⟩
                · exact absurd g hq
                · exact absurd (pure_quiet g) hq
                · exact absurd g hst
                · exact absurd g hq
                · rw [hmq] at g; cases g
            · rcases standsWith_spec ops.toList 0 (hspec m p hm).2 i o hio (by omega) with h | ⟨g2, _⟩
              · simpa using h
              · exfalso
                rw [late_quiet hq, Bool.or_false] at g2
                simp only [mayPair, Bool.or_eq_true, Bool.and_eq_true] at g2
                rcases g2 with ((⟨g, _⟩ | ⟨g, _⟩ | ⟨g, _⟩) | ⟨g, _⟩) | ⟨_, g⟩
                · rw [hmq] at g; cases g
                · rw [pure_quiet g] at hmq; cases hmq
                · rw [hms] at g; cases g
                · rw [hmq] at g; cases g
                · exact absurd g hq)
          have hev := big_evF (al := base + i) hbig hhb hinv htop h2
          refine .inl (evF_sound (K := fun S' => some S') (al := base + i) (n := n) (ds := ds) hE hsr hev hdo (by omega) (by omega) (fun S2 μ' a' w' hk hsr' hag' => ?_))
          cases hk
          refine ih _ _ μ' a' w' (by simpa using hsz) hcnt' hclo' (by rw [hset]; exact h2.inv hinv hbs) ?_ hsr' (hag.trans hag' (fun _ h => h) (fun _ h => h))
          rw [hset]
          exact h3
        by_cases happ : isApp E bf i o = true
        · obtain ⟨S', h2, _, h3⟩ := Rest.pickApp hio hLi happ hlt (fun k hki hLk ok hok => by
            have hnk : k ∉ bf.getD i [] := fun hm => by rw [hbs k hm] at hLk; cases hLk
            rcases standsWith_spec ops.toList 0 (hspec i o hio).2 k ok hok (by omega) with h | ⟨g2, g3⟩
            · simp at h; exact absurd h (by simpa using hnk)
            · refine ⟨?_, hnk, g3⟩
              rw [Bool.or_eq_true, Bool.or_eq_true, Bool.or_eq_true] at g2
              rcases g2 with ((g2 | g2) | g2) | g2
              rotate_left 2
              · rw [Bool.and_eq_true] at g2; exact absurd g2.1 hq
              · rw [Bool.and_eq_true] at g2; exact absurd g2.1 hbig
              · simp only [mayPair, Bool.or_eq_true, Bool.and_eq_true] at g2
                rcases g2 with ⟨g, _⟩ | ⟨g, _⟩ | ⟨g, _⟩
                · exact absurd g hq
                · exact absurd (pure_quiet g) hq
                · exact absurd g hst
              · rw [Bool.or_eq_true] at g2
                rcases g2 with g2 | g2
                · obtain ⟨_, _, h, _⟩ := mayLate_some g2
                  exact absurd h hst
                · exact (mayApp_some g2).2.imp id fun ⟨t, ht, hk⟩ => ⟨t, ht, by simpa using hk⟩) ops.toList 0 S rfl (Nat.zero_le _) hinv.len (hinv.dead i hlt hLi) hr
          obtain ⟨_, _, _, _, _, _, hgd, _⟩ := isApp_some happ
          have hw : Region.wanted o (yielded ops a.tmps) = true := by
            unfold Region.wanted
            rw [hgd]
          rw [hw, if_pos rfl]
          have hl := hinv.len
          refine .inl (evF_sound (K := fun S' => some S') (r := S') (al := base + i) (n := n) (ds := ds) hE hsr (AppRes.evF (E := E) (al := base + i) h2 happ (fresh_bool (hinv.fresh hlt hLi)) _) hdo (by omega) (by omega) (fun S2 μ' a' w' hk hsr' hag' => ?_))
          cases hk
          refine ih _ S' μ' a' w' (by simpa using hsz) hcnt' hclo' ?_ (by rw [hset]; exact h3) hsr' (hag.trans hag' (fun _ h => h) (fun _ h => h))
          rw [hset]
          exact h2.inv hinv hlt
        have hall : ∀ k, k < i → ofArr listed k = true := fun k hki => by
          have hko : ops.toList[k]? = some (ops.toList[k]'(by omega)) := List.getElem?_eq_getElem (by omega)
          rcases standsWith_spec ops.toList 0 (hspec i o hio).2 k _ hko (by omega) with h | ⟨g2, _⟩
          · exact hbs k (by simpa using h)
          · rw [late_none hst happ, Bool.or_false] at g2
            simp only [mayPair, Bool.or_eq_true, Bool.and_eq_true] at g2
            rcases g2 with ((⟨g, _⟩ | ⟨g, _⟩ | ⟨g, _⟩) | ⟨g, _⟩) | ⟨g, _⟩
            · exact absurd g hq
            · exact absurd (pure_quiet g) hq
            · exact absurd g hst
            · exact absurd g hq
            · exact absurd g hbig
        have hbefs : ∀ k, k < i → k ∈ bf.getD i [] := fun k hki => by
          have hko : ops.toList[k]? = some (ops.toList[k]'(by omega)) := List.getElem?_eq_getElem (by omega)
          rcases standsWith_spec ops.toList 0 (hspec i o hio).2 k _ hko (by omega) with h | ⟨g2, _⟩
          · simpa using h
          · exfalso
            rw [late_none hst happ, Bool.or_false] at g2
            simp only [mayPair, Bool.or_eq_true, Bool.and_eq_true] at g2
            rcases g2 with ((⟨g, _⟩ | ⟨g, _⟩ | ⟨g, _⟩) | ⟨g, _⟩) | ⟨g, _⟩
            · exact absurd g hq
            · exact absurd (pure_quiet g) hq
            · exact absurd g hst
            · exact absurd g hq
            · exact absurd g hbig
        have hnone : ∀ k, i < k → ofArr listed k = false := fun k hki => by
          by_cases hkn : k < ops.toList.length
          · by_cases hLk : ofArr listed k = true
            · exfalso
              have hko : ops.toList[k]? = some (ops.toList[k]'hkn) := List.getElem?_eq_getElem hkn
              rcases standsWith_spec ops.toList 0 (hspec k _ hko).2 i o hio (by omega) with h | ⟨g2, _⟩
              · have := hclo k hkn hLk i (by simpa using h)
                rw [hLi] at this; cases this
              · rw [late_quiet hq, Bool.or_false] at g2
                simp only [mayPair, Bool.or_eq_true, Bool.and_eq_true] at g2
                rcases g2 with ((⟨_, g⟩ | ⟨_, g⟩ | ⟨_, g⟩) | ⟨_, g⟩) | ⟨_, g⟩
                · exact absurd g hq
                · exact absurd g hst
                · exact absurd (pure_quiet g) hq
                · exact absurd (by simpa using g) hbig
                · exact absurd g hq
            · simpa using hLk
          · simp only [ofArr]
            have : ¬ k < listed.size := by omega
            simp [this]
        have hr2 := (rest_skip (E := E) (K := K) (r := r) (bf := bf) (base := base) (all := ops.toList) (L := ofArr listed) i 0 S (fun k _ h => hall k (by omega)) (by omega)).1 (by simpa using hr)
        simp only [Nat.zero_add] at hr2
        have hdrop : ops.toList.drop i = o :: ops.toList.drop (i + 1) := by
          rw [List.drop_eq_getElem_cons hlt]
          have := List.getElem?_eq_getElem hlt
          rw [hio] at this
          cases this; rfl
        rw [hdrop] at hr2
        simp only [Rest] at hr2
        rw [hLi, if_neg (by simp), if_neg hq, if_neg hst, if_neg hbig, if_neg happ] at hr2
        have hgo : ∀ S' μ' a' w', cond (pastOK S' base ops.toList.length i && cond (hasBig E bf 0 ops.toList) (noItFrom S' base ops.toList.length) true) (evDraw E ops.toList bf base (i + 1) (ops.toList.drop (i + 1)) S' K) none = some r → SR c S' μ' a' w' → Ag n ds S μ S' μ' → wpAny P .any ops Q fuel (listed.setIfInBounds i true) a' w' := by
          intro S' μ' a' w' hk hsr' hag'
          obtain ⟨hp, hk⟩ := cond_some hk
          simp only [pastOK, unseen, Bool.and_eq_true, okPast_iff, okPastO_iff, deadFrom_iff, boundL_iff, boundO_iff] at hp
          obtain ⟨⟨hp1, hp2, hp3, hp4, hp5, hp6⟩, hp7⟩ := hp
          have hokx : ∀ x, (x ≤ base + i ∨ base + ops.toList.length ≤ x) → x < base ∨ base + ops.toList.length ≤ x ∨ ∃ k, x = base + k ∧ addL (ofArr listed) i k = true := fun x hx => by
            rcases hx with hx | hx
            · rcases Nat.lt_or_ge x base with h1 | h1
              · exact .inl h1
              · refine .inr (.inr ⟨x - base, by omega, ?_⟩)
                by_cases e : x - base = i
                · rw [e, addL_same]
                · rw [addL_other _ e]; exact hall _ (by omega)
            · exact .inr (.inl hx)
          refine ih _ S' μ' a' w' (by simpa using hsz) hcnt' hclo' ?_ ?_ hsr' (hag.trans hag' (fun _ h => h) (fun _ h => h))
          · rw [hset]
            refine ⟨by simpa using hp1, fun x hx => hokx x (hp2 x hx), fun b hb x hx => hokx x (hp3 b hb x hx), fun k hk1 hk2 => ?_, hp5, hp6, fun hh k hk => ?_⟩
            rotate_left
            · rw [hh, cond_true] at hp7
              exact noItFrom_iff hp7 k hk
            have hki : i < k := by
              rcases Nat.lt_or_ge i k with h | h
              · exact h
              · exfalso
                by_cases e : k = i
                · subst e; rw [addL_same] at hk2; cases hk2
                · rw [addL_other _ e, hall k (by omega)] at hk2; cases hk2
            exact hp4 (base + k) (by omega) (by omega)
          · rw [hset]
            have h5 : Rest E ops.toList bf base K r (addL (ofArr listed) i) (i + 1) (ops.toList.drop (i + 1)) S' := rest_of_draw _ _ _ _ hk (fun k hk => by rw [addL_other _ (by omega)]; exact hnone k (by omega))
            have := (rest_skip (E := E) (K := K) (r := r) (bf := bf) (base := base) (all := ops.toList) (L := addL (ofArr listed) i) (i + 1) 0 S' (fun k _ h => by
              by_cases e : k = i
              · rw [e, addL_same]
              · rw [addL_other _ e]; exact hall k (by omega)) (by omega)).2 (by simpa using h5)
            simpa using this
        have hw := wanted_ok hsr hr2
        rw [hw]
        rcases wantK_some hr2 with ⟨hw1, h2⟩ | ⟨hw1, h2⟩
        · rw [hw1, if_pos rfl]
          have hl := hinv.len
          obtain ⟨_, h2⟩ := cond_some h2
          exact .inl (evF_sound hE hsr h2 hdo (by omega) (by omega) hgo)
        · rw [hw1]
          simp only [Bool.false_eq_true, if_false]
          have hl := hinv.len
          obtain ⟨g1, g2⟩ := hsr.skip (o := o) (ds := ds) (n := n) hdo (by omega)
          exact hgo _ μ _ _ h2 g1 g2

/-- a region -/
theorem region_sound (hE : EnvC P E c) (hm : P.follows .mixedOrders = true) {id : Nat} {ops : Array Oper} {draw : Bool} (h : evRegion E ops.toList draw S K = some r) (hsr : SR c S μ a w) (hd : ∀ o ∈ ops.toList, ∀ t, o.dst = some t → t ∈ ds) (hn : n ≤ S.objs.length)
    (hQ : ∀ S' μ' a' w', K S' = some r → SR c S' μ' a' w' → Ag n ds S μ S' μ' → Q .normal a' w') : (Code.region id ops draw).wp P Q a w := by
  unfold evRegion at h
  cases draw with
  | false =>
    simp only [cond_false] at h
    refine wp_region ?_
    have := evOps_sound (n := n) (ds := ds) (Q := Q) hE ops.toList 0 (by simp) h hsr hd hn hQ
    rw [List.range_eq_range']
    simpa using this
  | true =>
    simp only [cond_true] at h
    obtain ⟨hc, h⟩ := cond_some h
    simp only [Bool.and_eq_true] at hc
    obtain ⟨huns, hok⟩ := hc
    simp only [unseen, Bool.and_eq_true] at huns
    rw [boundL_iff, boundO_iff] at huns
    refine wp_region_any hm ?_
    have hS : ∃ S1 : St, S1 = { S with objs := S.objs ++ List.replicate ops.toList.length OB.dead } := ⟨_, rfl⟩
    obtain ⟨S1, hS1⟩ := hS
    rw [← hS1] at h
    have hob : S1.ob = S.ob := by
      subst hS1
      funext x
      simp only [St.ob, List.getD, List.getElem?_append]
      split
      · rfl
      · rename_i hge
        have : S.objs[x]? = none := by simp; omega
        rw [this, List.getElem?_replicate]
        split <;> rfl
    have hsl : S1.slots = S.slots := by subst hS1; rfl
    obtain ⟨μ', h1, h2⟩ := hsr.add (al := S.objs.length) (d := none) (pv := .any) (v := Go.undef) (nb := none) (Keep.drew None w) (fun _ h => by cases h) (.mk_any _)
    have h2 : Ag n ds S μ S μ' := h2 n ds (fun _ h => by cases h) hn hn
    have hsr1 : SR c S1 μ' a { w with drawn := w.drawn + 1 } := ⟨h1.defers, by rw [hsl, hob]; exact h1.slots, by rw [hob]; exact h1.objs, h1.keep, by rw [hob]; exact h1.mine⟩
    have hag : Ag n ds S μ S1 μ' := by
      refine ⟨by rw [hsl], fun t _ => by rw [hsl], by subst hS1; simp; omega, fun i _ => .inl (by rw [hob]), fun i hi => by subst hS1; exact hi, fun i hi => by rw [hob]; exact h2.later i hi⟩
    have hrep : ∀ k, ofArr (Array.replicate ops.size false) k = false := fun k => by
      simp only [ofArr]
      rw [Array.getD_eq_getD_getElem?, Array.getElem?_replicate]
      split <;> rfl
    refine draw_any (base := S.objs.length) (S0 := S) (μ0 := μ) (ds := ds) (n := n) hE rfl hok hd hn hQ ops.size _ S1 μ' a _ (by simp) ?_ ?_ ?_ ?_ hsr1 hag
    · have := List.countP_le_length (p := fun k => !ofArr (Array.replicate ops.size false) k) (l := List.range ops.toList.length)
      simpa using this
    · intro k _ hk
      rw [hrep] at hk; cases hk
    · have hlt : S.objs.length ≤ S1.objs.length := by subst hS1; simp
      have hdk : ∀ k, S1.ob (S.objs.length + k) = .dead := fun k => by
        rw [hob]
        have : S.objs[S.objs.length + k]? = none := by simp
        simp [St.ob, List.getD, this]
      refine ⟨by subst hS1; simp, fun x hx => .inl (huns.1 x (by rw [← hsl]; exact hx)), fun b hb x hx => ?_, fun k hk _ => ?_, fun x hx => ?_, fun b hb x hx => ?_, fun _ k _ => by rw [hdk k]; rfl⟩
      rotate_left 2
      · have := huns.1 x (by rw [← hsl]; exact hx); omega
      · subst hS1
        rcases List.mem_append.1 hb with hb | hb
        · have := huns.2 b hb x hx; omega
        · rw [List.eq_of_mem_replicate hb] at hx; simp [OB.oids] at hx
      · subst hS1
        rcases List.mem_append.1 hb with hb | hb
        · exact .inl (huns.2 b hb x hx)
        · rw [List.eq_of_mem_replicate hb] at hx; simp [OB.oids] at hx
      · rw [hob]
        have : S.objs[S.objs.length + k]? = none := by simp
        simp [St.ob, List.getD, this]
    · refine rest_of_draw _ _ _ _ h (fun k _ => hrep k)
end
end Go.Vm
