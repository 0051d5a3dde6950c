/- Vm, part 17: regions that draw their order. Own work. -/
import Derived.Test.YtbjpkdbneopgkaaGreatDoorVmE
import Derived.Test.YtbjpkdbneopgkaaGreatDoorVmB
import Derived.LoopN
import Derived.Maps.RangeRun
import Derived.Laws.Sem
import Derived.KernelRfl
set_option linter.unusedVariables false
set_option linter.unusedSimpArgs false
set_option linter.unusedSectionVars false
namespace Go.Vm
variable [MonotC]
open Go.RowKit
section
variable {E : Env} {S S' : St} {o : Oper} {al : Nat} {ρ : Type}
theorem ob_objs (h : S'.objs = S.objs) : S'.ob = S.ob := by funext x; simp only [St.ob, h]
theorem asData_congr (h : S'.ob = S.ob) (T : Ty) (x : PV) : asData S' T x = asData S T x := by
  unfold asData; rw [h]
theorem lenOf_congr (h : S'.ob = S.ob) (t : Option Nat) (x : PV) (K : PV → Option ρ) : lenOf E S' t x K = lenOf E S t x K := by
  unfold lenOf; rw [h]
theorem boundK_congr {x : Option Operand} (h : ∀ y, x = some y → opd S' y = opd S y) (d : Int) (K : Int → Option ρ) : evP.boundK S' x d K = evP.boundK S x d K := by
  unfold evP.boundK
  cases x with
  | none => rfl
  | some y => simp only [h y rfl]
theorem buildK_congr {d : TD} : ∀ (l : List (Nat × Operand)) (h : ∀ p ∈ l, opd S' p.2 = opd S p.2) (v : PV) (K : PV → Option ρ), evP.buildK S' d l v K = evP.buildK S d l v K
  | [], _, v, K => rfl
  | p :: l, h, v, K => by
    simp only [evP.buildK, h p (by simp)]
    split
    · rw [buildK_congr l (fun q hq => h q (by simp [hq]))]
    · rfl
theorem parts_congr {T : Ty} : ∀ (l : List (Nat × Operand)) (h : ∀ p ∈ l, opd S' p.2 = opd S p.2) (i : Nat), evP.implodeParts S' T i l = evP.implodeParts S T i l
  | [], _, i => rfl
  | p :: l, h, i => by
    simp only [evP.implodeParts, h p (by simp), parts_congr l (fun q hq => h q (by simp [hq]))]
theorem map_congr {l : List Operand} (h : ∀ x ∈ l, opd S' x = opd S x) : l.map (opd S') = l.map (opd S) := List.map_congr_left h
theorem evP_congr (hob : S'.ob = S.ob) (h : ∀ x ∈ o.op.operands, opd S' x = opd S x) (K : PV → Option OB → Option ρ) : evP E o S' al K = evP E o S al K := by
  cases hop : o.op <;> rw [hop] at h <;> simp only [Op.operands] at h <;> simp only [evP, hop]
  case move x => rw [h x (by simp)]
  case assign x => rw [h x (by simp)]
  case pick x y z => rw [h x (by simp), h y (by simp), h z (by simp)]
  case box t x => rw [h x (by simp)]
  case build t ps => simp only [buildK_congr ps.toList (fun p hp => h p.2 (by simp; exact ⟨p.1, by simpa using hp⟩))]
  case buildSlice t n ps => simp only [parts_congr ps.toList (fun p hp => h p.2 (by simp; exact ⟨p.1, by simpa using hp⟩))]
  case load t x => rw [h x (by simp), hob]
  case binOp op t x y e => rw [h x (by simp), h y (by simp)]
  case unOp op t x =>
    have := h x (by simp)
    cases op <;> first | rfl | (simp only; rw [this])
  case convert s t x => rw [h x (by simp)]
  case makeFunc f first caps =>
    have := map_congr (S := S) (S' := S') (l := caps.toList) (fun x hx => h x (by simp at hx; simp [hx]))
    cases f <;> first | rfl | (simp only; rw [this])
  case makeSlice t x y => rw [h x (by simp), h y (by simp)]
  case slice t x lo hi mx =>
    rw [h x (by simp), hob]
    simp only [boundK_congr (x := lo) (fun y hy => h y (by simp [hy])), boundK_congr (x := hi) (fun y hy => h y (by simp [hy]))]
  case fieldAddr s x f => rw [h x (by simp), hob]
  case indexAddr t x y => rw [h x (by simp), h y (by simp), hob]
  case index t x y => rw [h x (by simp), h y (by simp)]
  case extract x i => rw [h x (by simp)]
  case nilCheck x => rw [h x (by simp), hob]
  case makeMap t n =>
    cases n with
    | none => rfl
    | some n => have e := h n (by simp); simp only [e]
  case lookup t x y ok => rw [h x (by simp), h y (by simp)]; simp only [mapOf, hob]
  case range t x => rw [h x (by simp), hob]
  case entry x => rw [h x (by simp), hob]
  case call c =>
    have ha : c.args.toList.map (opd S') = c.args.toList.map (opd S) := map_congr (fun x hx => h x (by simp at hx; simp [Call.operands, hx]))
    cases hc : c.callee with
    | value f => rfl
    | invoke r m => rfl
    | builtin b =>
      rw [ha]
      cases b <;> try rfl
      case len =>
        simp only
        split
        · rename_i x hx
          rw [h x (by simp [Call.operands]; right; simp [← Array.mem_toList_iff, hx]), lenOf_congr hob]
        · rfl

/-! ### One answer, whatever follows -/
abbrev both (x : Option (PV × Option OB)) (K : PV → Option OB → Option ρ) : Option ρ := optK x fun p => K p.1 p.2
theorem both_cond (b : Bool) (x y : Option (PV × Option OB)) (K : PV → Option OB → Option ρ) : both (cond b x y) K = cond b (both x K) (both y K) := by cases b <;> rfl
theorem binSl_both (okS : Bool) (op : BinOp) (n : Nat) (K : PV → Option OB → Option ρ) : binSl okS op n (fun v => K v none) = both (binSl okS op n (fun v => some (v, none))) K := by
  unfold binSl
  cases op <;> simp only [both, optK] <;> (first | rfl | (cases okS <;> simp only [cond_true, cond_false] <;> cases Nat.ble n 0 <;> rfl))
theorem binAgg_both (q : Option Ty) (op : BinOp) (l m : List PV) (K : PV → Option OB → Option ρ) : binAgg q op l m (fun v => K v none) = both (binAgg q op l m (fun v => some (v, none))) K := by
  unfold binAgg
  cases q with
  | none => rfl
  | some T =>
    simp only
    cases (T.isAgg && (!T.deep && Nat.ble T.height 100))
    · rfl
    · simp only [cond_true]
      cases eqT T (.agg l) (.agg m) with
      | none => rfl
      | some b => cases op <;> rfl
theorem binInt_both (op : BinOp) (k k' : IntKind) (a b : Int) (K : PV → Option OB → Option ρ) : binInt op k k' a b (fun v => K v none) = both (binInt op k k' a b (fun v => some (v, none))) K := by
  unfold binInt
  split <;> (first | rfl | (rw [both_cond, both_cond]; rfl) | (rw [both_cond]; rfl))
theorem ifEq_both (c : Bool) (op : BinOp) (x y : PV) (K : PV → Option OB → Option ρ) : ifEq c op x y (fun v => K v none) = both (ifEq c op x y (fun v => some (v, none))) K := by
  unfold ifEq
  rw [both_cond]
  cases op <;> rfl
theorem bin_both (okB okS : Bool) (q : Option Ty) (op : BinOp) (x y : PV) (K : PV → Option OB → Option ρ) : bin okB okS q op x y (fun v => K v none) = both (bin okB okS q op x y (fun v => some (v, none))) K := by
  unfold bin
  split
  · exact binInt_both _ _ _ _ _ _
  · cases op <;> simp only [both, optK] <;> (first | rfl | (split <;> simp_all) | skip)
    all_goals (rename_i a b; by_cases hb : a.size + b.size < 4611686018427387904 <;> simp [hb])
  · cases op <;> simp only [both, optK] <;> (first | rfl | (cases okB <;> rfl))
  · exact binSl_both _ _ _ _
  · exact binAgg_both _ _ _ _ _
  · rfl
theorem foldMM_both (op : BinOp) : ∀ (l : List PV) (x : PV) (K : PV → Option OB → Option ρ), foldMM op x l (fun v => K v none) = both (foldMM op x l (fun v => some (v, none))) K
  | [], x, K => by cases x <;> rfl
  | y :: l, x, K => by
    by_cases hx : ∃ k a k' b, x = .int k a ∧ y = .int k' b
    · obtain ⟨k, a, k', b, rfl, rfl⟩ := hx
      simp only [foldMM]
      by_cases hk : k = k'
      · simp only [hk, if_true]; exact foldMM_both op l _ K
      · simp only [hk, if_false]; rfl
    · cases x <;> cases y <;> first | (exfalso; exact hx ⟨_, _, _, _, rfl, rfl⟩) | rfl | (simp only [foldMM]; rfl)
theorem buildK_both {d : TD} : ∀ (l : List (Nat × Operand)) (v : PV) (K : PV → Option OB → Option ρ), evP.buildK S d l v (fun v => K v none) = both (evP.buildK S d l v (fun v => some (v, none))) K
  | [], v, K => rfl
  | p :: l, v, K => by
    simp only [evP.buildK]
    split
    · rw [both_cond, buildK_both l]; rfl
    · rfl
theorem lenOf_both (t : Option Nat) (x : PV) (K : PV → Option OB → Option ρ) : lenOf E S t x (fun v => K v none) = both (lenOf E S t x (fun v => some (v, none))) K := by
  unfold lenOf
  repeat' split
  all_goals first | rfl | (rw [both_cond]; rfl) | (simp_all; done)
theorem boundK_both (x : Option Operand) (d : Int) (K : PV → Option OB → Option ρ) (f : Int → Option (PV × Option OB)) : evP.boundK S x d (fun i => both (f i) K) = both (evP.boundK S x d f) K := by
  unfold evP.boundK
  repeat' split
  all_goals first | rfl | (simp_all; done)
theorem evP_both (K : PV → Option OB → Option ρ) : evP E o S al K = both (evP E o S al (fun v b => some (v, b))) K := by
  cases hop : o.op <;> simp only [evP, hop] <;> try rfl
  case pick x y z => split <;> first | rfl | (rw [both_cond]; rfl)
  case box t x => split <;> first | rfl | (rw [both_cond]; rfl)
  case build t ps => split <;> first | rfl | (rw [both_cond, buildK_both]; rfl)
  case buildSlice t n ps => split <;> first | rfl | (rw [both_cond]; congr 1; cases evP.implodeParts S _ 0 ps.toList <;> first | rfl | (simp only [optK]; cases E.lit <;> rfl))
  case load t x =>
    repeat' split
    all_goals first | rfl | (rw [both_cond]; rfl) | (rw [both_cond]; congr 1; cases getT _ _ _ <;> first | rfl | (simp only [optK, both_cond]))
  case binOp op t x y e => rw [both_cond, ← ifEq_both, ← bin_both]
  case unOp op t x => cases op <;> first | rfl | (simp only; split <;> rfl)
  case convert s t x =>
    repeat' split
    all_goals rfl
  case alloc t => split <;> first | rfl | (rw [both_cond]; rfl)
  case makeFunc f first caps => cases f <;> first | rfl | (simp only; split <;> rfl)
  case makeSlice t x y => repeat' split
                          all_goals first | rfl | (rw [both_cond]; rfl) | (rw [both_cond, both_cond]; rfl)
  case slice t x lo hi mx =>
    cases mx <;> try rfl
    simp only
    split
    · split
      · rw [← boundK_both]; congr 1; funext l; rw [← boundK_both]; congr 1; funext h; rw [both_cond]; rfl
      · rfl
    · rw [← boundK_both]; congr 1; funext l; rw [← boundK_both]; congr 1; funext h; rw [both_cond]; rfl
    · split
      · rw [← boundK_both]; congr 1; funext l; rw [← boundK_both]; congr 1; funext h; rw [both_cond]; rfl
      · rfl
    · split
      · rw [← boundK_both]; congr 1; funext l; rw [← boundK_both]; congr 1; funext h; rw [both_cond]; rfl
      · rfl
    · split
      · rw [← boundK_both]; congr 1; funext l; rw [← boundK_both]; congr 1; funext h; rw [both_cond]; rfl
      · rfl
    · rfl
  case fieldAddr s x f =>
    repeat' split
    all_goals first | rfl | (rw [both_cond]; rfl)
  case indexAddr t x y =>
    repeat' split
    all_goals first | rfl | (rw [both_cond]; rfl)
  case index t x y =>
    repeat' split
    all_goals first | rfl | (rw [both_cond]; rfl)
  case extract x i =>
    repeat' split
    all_goals first | rfl | (rw [both_cond]; rfl)
  case nilCheck x =>
    repeat' split
    all_goals rfl
  case makeMap t n =>
    repeat' split
    all_goals rfl
  case lookup t x y ok =>
    split
    · rename_i T U hd
      cases mapOf S T U (opd S x) with
      | none => rfl
      | some c =>
        simp only [optK]
        cases implode T (opd S y) with
        | none => rfl
        | some k => cases ok <;> rfl
    · rfl
  case range t x =>
    repeat' split
    all_goals first | rfl | (rw [both_cond]; rfl)
  case entry x =>
    repeat' split
    all_goals first | rfl | (rw [both_cond]; congr 1; rename_i cur _; cases cur <;> rfl)
  case call c =>
    cases hc : c.callee with
    | value f => rfl
    | invoke r m => rfl
    | builtin b =>
      cases b <;> try rfl
      case len => simp only; split <;> first | rfl | exact lenOf_both _ _ K
      case cap => simp only; (repeat' split) <;> rfl
      case min => simp only; split <;> first | rfl | exact foldMM_both _ _ _ K
      case max => simp only; split <;> first | rfl | exact foldMM_both _ _ _ K

theorem showArgs_congr (h : S'.ob = S.ob) : ∀ (ms : List Mode) (vs : List PV), showArgs S' ms vs = showArgs S ms vs
  | [], vs => by simp only [showArgs]
  | m :: ms, [] => by cases m <;> rfl
  | m :: ms, v :: vs => by
    cases m <;> simp only [showArgs, showArgs_congr h ms vs, asData_congr h]
theorem operands_call {c : Call} {x : Operand} (h : x ∈ c.args.toList) : x ∈ c.operands := by
  simp only [Call.operands]
  split <;> simp at h ⊢ <;> simp [h]
theorem operands_callee {c : Call} {f : Operand} (h : c.callee = .value f) : f ∈ c.operands := by
  simp only [Call.operands, h]
  simp
theorem quietCallee_congr {c : Call} (h : ∀ x ∈ c.operands, opd S' x = opd S x) : quietCallee E S' c = quietCallee E S c := by
  unfold quietCallee
  cases hc : c.callee with
  | value f =>
    cases f with
    | tmp t =>
      have : S'.slots.getD t .undef = S.slots.getD t .undef := h (.tmp t) (by simp [Call.operands, hc])
      simp only [quietTmp, this]
    | _ => rfl
  | _ => rfl
theorem evQuiet_congr (ho : S'.ob = S.ob) (h : ∀ x ∈ o.op.operands, opd S' x = opd S x) (K : PV → Option OB → Option ρ) : evQuiet E o S' al K = evQuiet E o S al K := by
  unfold evQuiet
  split
  · rename_i c hop
    rw [quietCallee_congr (S := S) (fun x hx => h x (by rw [hop]; simpa only [Op.operands] using hx))]
    split
    · have ha : c.args.toList.map (opd S') = c.args.toList.map (opd S) := map_congr (fun x hx => h x (by rw [hop]; simp only [Op.operands]; exact operands_call hx))
      rw [ha, showArgs_congr ho]
    · exact evP_congr ho h K
  · exact evP_congr ho h K
theorem evQuiet_both {K : PV → Option OB → Option ρ} {r : ρ} (h : evQuiet E o S al K = some r) : ∃ v b, evQuiet E o S al (fun v b => some (v, b)) = some (v, b) ∧ K v b = some r := by
  have hp : ∀ {K : PV → Option OB → Option ρ}, evP E o S al K = some r → ∃ v b, evP E o S al (fun v b => some (v, b)) = some (v, b) ∧ K v b = some r := by
    intro K h
    rw [evP_both] at h
    obtain ⟨p, h1, h2⟩ := optK_some h
    exact ⟨p.1, p.2, h1, h2⟩
  unfold evQuiet at h ⊢
  split at h
  · rename_i c hop
    split at h
    · rename_i g hc
      simp only
      obtain ⟨as, h1, h⟩ := optK_some h
      obtain ⟨h2, h⟩ := cond_some h
      rw [(E.call g).param] at h
      split at h
      · rename_i p h3
        obtain ⟨h4, h⟩ := cond_some h
        rw [h1]
        simp only [optK, h2, cond_true]
        rw [(E.call g).param, h3]
        simp only [h4, cond_true]
        split at h
        · rename_i hl
          obtain ⟨h5, h⟩ := cond_some h
          simp only [hl, h5, cond_true]
          exact ⟨_, _, rfl, h⟩
        · rename_i b hl
          obtain ⟨h5, h⟩ := cond_some h
          simp only [hl, h5, cond_true]
          exact ⟨_, _, rfl, h⟩
        · cases h
      · cases h
    · exact hp h
  · exact hp h

/-! ### What an operation sees -/
def vis (base n : Nat) (bs : List Nat) (x : Nat) : Bool := Nat.blt x base || cond (Nat.ble (base + n) x) (mem n bs) (mem (x - base) bs)
theorem maskFrom_get (base n : Nat) (bs : List Nat) : ∀ (l : List OB) (i k : Nat), (maskFrom base n bs i l)[k]? = (l[k]?).map fun b => cond (vis base n bs (i + k)) b .dead
  | [], i, k => by simp [maskFrom]
  | b :: l, i, 0 => by simp [maskFrom, vis]
  | b :: l, i, k + 1 => by
    simp only [maskFrom, List.getElem?_cons_succ]
    rw [maskFrom_get base n bs l (i + 1) k, show i + 1 + k = i + (k + 1) from by omega]
theorem mask_ob (base n : Nat) (bs : List Nat) (x : Nat) : (S.mask base n bs).ob x = cond (vis base n bs x) (S.ob x) .dead := by
  simp only [St.ob, St.mask, List.getD, maskFrom_get, Nat.zero_add]
  cases S.objs[x]? <;> simp
theorem opd_mask (base n : Nat) (bs : List Nat) (x : Operand) : opd (S.mask base n bs) x = opd S x := by cases x <;> rfl
theorem add_objs {d : Option Tmp} {v : PV} {b : Option OB} (h : al < S.objs.length) : (S.add al d v b).objs = match b with | none => S.objs | some b => S.objs.set al b := by
  unfold St.add
  rw [put_objs]
  cases b with
  | none => rfl
  | some b => simp [St.new, show al + 1 - S.objs.length = 0 from by omega]
theorem add_slots {d : Option Tmp} {v : PV} {b : Option OB} : (S.add al d v b).slots = match d with | none => S.slots | some t => S.slots.set t v := by
  unfold St.add
  cases d <;> cases b <;> rfl
theorem add_touched {d : Option Tmp} {v : PV} {b : Option OB} : (S.add al d v b).touched = S.touched := by
  unfold St.add
  cases d <;> cases b <;> rfl
theorem add_len {d : Option Tmp} {v : PV} {b : Option OB} (h : al < S.objs.length) : (S.add al d v b).objs.length = S.objs.length := by
  rw [add_objs h]; cases b <;> simp
theorem St.ext {S S' : St} (h1 : S.slots = S'.slots) (h2 : S.objs = S'.objs) (h3 : S.touched = S'.touched) : S = S' := by
  cases S; cases S'; simp_all
theorem add_comm {al al' : Nat} {d d' : Option Tmp} {v v' : PV} {b b' : Option OB} (h : al < S.objs.length) (h' : al' < S.objs.length) (hne : al ≠ al') (hd : ∀ t, d = some t → d' ≠ some t) :
    (S.add al d v b).add al' d' v' b' = (S.add al' d' v' b').add al d v b := by
  apply St.ext
  · simp only [add_slots]
    cases d with
    | none => cases d' <;> rfl
    | some t =>
      cases d' with
      | none => rfl
      | some t' => exact List.set_comm _ _ (fun e => hd t rfl (by rw [e]))
  · have e1 := add_objs (S := S.add al d v b) (al := al') (d := d') (v := v') (b := b') (by rw [add_len h]; exact h')
    have e2 := add_objs (S := S.add al' d' v' b') (al := al) (d := d) (v := v) (b := b) (by rw [add_len h']; exact h)
    rw [e1, e2, add_objs h, add_objs h']
    cases b <;> cases b' <;> first | rfl | exact List.set_comm _ _ hne
  · simp only [add_touched]
theorem mask_add {d : Option Tmp} {v : PV} {b : Option OB} (h : al < S.objs.length) {base n : Nat} {bs : List Nat} (hv : vis base n bs al = false) : ((S.add al d v b).mask base n bs).objs = (S.mask base n bs).objs := by
  simp only [St.mask, add_objs h]
  cases b with
  | none => rfl
  | some b =>
    apply List.ext_getElem?
    intro k
    rw [maskFrom_get, maskFrom_get, List.getElem?_set]
    by_cases e : al = k
    · subst e
      simp [h, hv]
    · rw [if_neg e]
theorem slot_add {d : Option Tmp} {v : PV} {b : Option OB} {t : Nat} (h : d ≠ some t) : (S.add al d v b).slots.getD t .undef = S.slots.getD t .undef := by
  rw [add_slots]
  cases d with
  | none => rfl
  | some t' => simp only [List.getD, List.getElem?_set]; rw [if_neg (fun e => h (by rw [e]))]
theorem opd_add {d : Option Tmp} {v : PV} {b : Option OB} {x : Operand} (h : ∀ t, d = some t → x ≠ .tmp t) : opd (S.add al d v b) x = opd S x := by
  cases x with
  | tmp t => exact slot_add (fun e => h t e rfl)
  | _ => rfl

/-! ### The answer of an operation that changes nothing -/
def known (all : List Oper) (o : Oper) (S : St) : Bool :=
  match guardOf all o with
  | none => false
  | some none => true
  | some (some (g, _)) => match S.slots.getD g .undef with
    | .bool _ => true
    | .undef => true
    | _ => false
def Res (E : Env) (all : List Oper) (bf : List (List Nat)) (base j : Nat) (o : Oper) (S : St) (v : PV) (b : Option OB) : Prop :=
  known all o S = true ∧ ((wanted all o S = false ∧ v = .undef ∧ b = none) ∨
    (wanted all o S = true ∧ evQuiet E o (S.mask base all.length (seen E all bf j)) (base + j) (fun v b => some (v, b)) = some (v, b) ∧ okOid base all.length j (seen E all bf j) (v.oids ++ obOids b) = true ∧ boundL S.objs.length (v.oids ++ obOids b) = true ∧ (hasBig E bf 0 all = true → noItO b = true)))
theorem wantK_known {all : List Oper} {r : ρ} {yes no : St → Option ρ} (h : wantK all o S yes no = some r) : known all o S = true := by
  unfold wantK at h
  unfold known
  split at h
  · cases h
  · rename_i hg; rw [hg]
  · rename_i g want hg
    rw [hg]
    simp only
    split at h
    · rename_i b hb; rw [hb]
    · rename_i hb; rw [hb]
    · cases h
theorem wanted_known {c : Cx} {μ : Nat → Value} {a : Act} {w : World} {ops : Array Oper} (hsr : SR c S μ a w) (h : known ops.toList o S = true) : Region.wanted o (yielded ops a.tmps) = wanted ops.toList o S := by
  refine wanted_ok (r := ()) (yes := fun _ => some ()) (no := fun _ => some ()) hsr ?_
  unfold known at h
  unfold wantK
  split at h
  · cases h
  · rename_i hg; rw [hg]
  · rename_i g want hg
    rw [hg]
    simp only
    split at h
    · rename_i b hb; rw [hb]; cases b <;> cases want <;> rfl
    · rename_i hb; rw [hb]
    · cases h
def Indep (all : List Oper) (o p : Oper) : Prop :=
  (∀ d, p.dst = some d → d ∉ readsOf all o) ∧ (∀ d, o.dst = some d → d ∉ readsOf all p) ∧ (∀ d, o.dst = some d → p.dst ≠ some d)
theorem Indep.symm {all : List Oper} {o p : Oper} (h : Indep all o p) : Indep all p o := ⟨h.2.1, h.1, fun d hd hp => h.2.2 d hp hd⟩
theorem operand_read {all : List Oper} {t : Nat} (h : Operand.tmp t ∈ o.op.operands) : t ∈ readsOf all o := by
  simp only [readsOf, tmpsOf, List.mem_append, List.mem_filterMap]
  exact .inl ⟨.tmp t, by simpa using h, rfl⟩
theorem guard_read {all : List Oper} {g : Nat} {want : Bool} (h : guardOf all o = some (some (g, want))) : g ∈ readsOf all o := by
  simp only [readsOf, h, List.mem_append]
  exact .inr (by simp)
theorem Res_local {all : List Oper} {bf : List (List Nat)} {base i j : Nat} {p : Oper} {v v' : PV} {b b' : Option OB} (hp : ∀ d, p.dst = some d → d ∉ readsOf all o) (hl : base + j < S.objs.length)
    (hv : vis base all.length (seen E all bf i) (base + j) = false) : Res E all bf base i o (S.add (base + j) p.dst v' b') v b ↔ Res E all bf base i o S v b := by
  have h1 : known all o (S.add (base + j) p.dst v' b') = known all o S := by
    unfold known
    cases hg : guardOf all o with
    | none => rfl
    | some q =>
      cases q with
      | none => rfl
      | some q => simp only [slot_add (fun e => hp q.1 e (guard_read (want := q.2) hg))]
  have h2 : wanted all o (S.add (base + j) p.dst v' b') = wanted all o S := by
    unfold wanted
    cases hg : guardOf all o with
    | none => rfl
    | some q =>
      cases q with
      | none => rfl
      | some q => simp only [slot_add (fun e => hp q.1 e (guard_read (want := q.2) hg))]
  have h3 : ∀ K : PV → Option OB → Option (PV × Option OB), evQuiet E o ((S.add (base + j) p.dst v' b').mask base all.length (seen E all bf i)) (base + i) K = evQuiet E o (S.mask base all.length (seen E all bf i)) (base + i) K := fun K => by
    refine evQuiet_congr (ob_objs (mask_add hl hv)) (fun x hx => ?_) K
    rw [opd_mask, opd_mask]
    exact opd_add (fun t ht e => hp t ht (operand_read (by rw [← e]; exact hx)))
  unfold Res
  rw [h1, h2, h3, add_len hl]

/-! ### Stores, and operations on variables alone -/
def storeV (E : Env) (t : Nat) (pa px : PV) (ob : Nat → OB) : Option (Nat × OB) :=
  match E.td t with
  | some d => match pa with
    | .ptr o p => match ob o with
      | .box e v => cond ((!e.isB || decide (p = [1])) && (match e.off p with | some q => decide (q.2 = d) | none => false) && (d.fits px && px.plain)) (some (o, .box e (setPath v p px))) none
      | _ => none
    | .elo o i p => match ob o with
      | .row T xs => cond ((match T.off p with | some q => decide (TD.data q.2 = d) | none => false) && inR i xs.length) (optK (setT T p (rd T.dflt xs i) px) fun y => cond (d.fits px && px.plain) (some (o, .row T (xs.set i.toNat y))) none) none
      | _ => none
    | _ => none
  | none => none
theorem evF_store {t : Nat} {a x : Operand} (h : o.op = .store t a x) (K : St → Option ρ) : evF E o S al K = (storeV E t (opd S a) (opd S x) S.ob).bind fun p => K ((S.setOb p.1 p.2).put o.dst .undef) := by
  simp only [evF, h, storeV]
  cases E.td t with
  | none => rfl
  | some d =>
    simp only
    cases opd S a with
    | ptr ob p =>
      simp only
      cases S.ob ob with
      | box e v =>
        simp only
        cases ((!e.isB || decide (p = [1])) && (match e.off p with | some q => decide (q.2 = d) | none => false) && (d.fits (opd S x) && (opd S x).plain)) <;> rfl
      | _ => rfl
    | elo ob i p =>
      simp only
      cases S.ob ob with
      | row T xs =>
        simp only
        cases ((match T.off p with | some q => decide (TD.data q.2 = d) | none => false) && inR i xs.length)
        · rfl
        · simp only [cond_true]
          cases setT T p (rd T.dflt xs i) (opd S x) with
          | none => rfl
          | some y =>
            simp only [optK]
            cases (d.fits (opd S x) && (opd S x).plain) <;> rfl
      | _ => rfl
    | _ => rfl
theorem isStore0_some (h : isStore0 o = true) : (∃ t a x, o.op = .store t a x) ∧ o.dst = none ∧ o.guard = none := by
  unfold isStore0 at h
  split at h
  · rename_i t a x hop
    simp only [Bool.and_eq_true] at h
    obtain ⟨h1, h2⟩ := h
    refine ⟨⟨t, a, x, hop⟩, ?_, ?_⟩
    · split at h1
      · assumption
      · cases h1
    · split at h2
      · assumption
      · cases h2
  · cases h
theorem store_not_quiet (h : isStore0 o = true) : isQuiet E o = false := by
  obtain ⟨⟨t, a, x, hop⟩, _, _⟩ := isStore0_some h
  simp only [isQuiet, hop]
theorem pure_quiet (h : isPureOp o = true) : isQuiet E o = true := by
  unfold isPureOp at h
  unfold isQuiet
  split at h <;> simp_all
theorem pure_not_store (h : isPureOp o = true) : isStore0 o = false := by
  unfold isPureOp at h
  unfold isStore0
  split at h <;> simp_all
/-- what a store does to the state -/
def StoreRes (E : Env) (o : Oper) (S S' : St) : Prop := ∃ t a x p, o.op = .store t a x ∧ storeV E t (opd S a) (opd S x) S.ob = some p ∧ S' = S.setOb p.1 p.2
theorem StoreRes.evF {S' : St} (h : StoreRes E o S S') (hd : o.dst = none) (K : St → Option ρ) : evF E o S al K = K S' := by
  obtain ⟨t, a, x, p, hop, hp, rfl⟩ := h
  rw [evF_store hop, hp, hd]
  rfl
theorem storeRes_of {r : ρ} {K : St → Option ρ} (hs : isStore0 o = true) (h : Vm.evF E o S al K = some r) : ∃ S', StoreRes E o S S' ∧ K S' = some r := by
  obtain ⟨⟨t, a, x, hop⟩, hd, _⟩ := isStore0_some hs
  rw [evF_store hop] at h
  obtain ⟨p, h1, h2⟩ := Option.bind_eq_some_iff.1 h
  rw [hd] at h2
  exact ⟨_, ⟨t, a, x, p, hop, h1, rfl⟩, h2⟩
/-- what kind of object this is -/
def OB.kind : OB → OB
  | .box d _ => .box d .undef
  | .row T xs => .row T (xs.map fun _ => T.dflt)
  | _ => .dead
theorem mask_kind (hk : ∀ i, (S'.ob i).kind = (S.ob i).kind) (base n : Nat) (bs : List Nat) (x : Nat) : ((S'.mask base n bs).ob x).kind = ((S.mask base n bs).ob x).kind := by
  rw [mask_ob, mask_ob]
  cases vis base n bs x
  · rfl
  · exact hk x
theorem fieldA_congr {t f : Nat} {a : Operand} (h : opd S' a = opd S a) (hk : ∀ i, (S'.ob i).kind = (S.ob i).kind) (hop : o.op = .fieldAddr t a f) (K : PV → Option OB → Option ρ) : evP E o S' al K = evP E o S al K := by
  simp only [evP, hop]
  rw [h]
  split
  · split
    · rfl
    · split
      · rfl
      · rename_i ob p _
        have := hk ob
        revert this
        cases S'.ob ob <;> cases S.ob ob <;> intro this <;> simp only [OB.kind] at this <;> first | rfl | (cases this; rfl) | (injection this with h1 h2; subst h1; rfl) | cases this
      · rename_i ob i p _
        have := hk ob
        revert this
        cases S'.ob ob <;> cases S.ob ob <;> intro this <;> simp only [OB.kind] at this <;> first | rfl | (cases this; rfl) | (injection this with h1 h2; subst h1; rfl) | cases this
      · rfl
  · rfl
theorem kind_row {T T' : Ty} {xs : List T.den} {ys : List T'.den} (h : (OB.row T xs).kind = (OB.row T' ys).kind) : T = T' ∧ xs.length = ys.length := by
  simp only [OB.kind] at h
  injection h with h1 h2
  subst h1
  have := congrArg List.length (eq_of_heq h2)
  rw [List.length_map, List.length_map] at this
  exact ⟨rfl, this⟩
theorem kind_cases {b b' : OB} (h : b'.kind = b.kind) : (∃ d v v', b = .box d v ∧ b' = .box d v') ∨ (∃ T xs ys, b = .row T xs ∧ b' = .row T ys ∧ List.length ys = List.length xs) ∨ ((∀ d v, b ≠ .box d v) ∧ (∀ T xs, b ≠ .row T xs) ∧ (∀ d v, b' ≠ .box d v) ∧ ∀ T xs, b' ≠ .row T xs) := by
  cases b <;> cases b'
  case box.box d v d' v' => simp only [OB.kind] at h; injection h with h1; subst h1; exact .inl ⟨_, _, _, rfl, rfl⟩
  case row.row T xs T' ys =>
    obtain ⟨h1, h2⟩ := kind_row h
    subst h1
    exact .inr (.inl ⟨_, _, _, rfl, rfl, h2⟩)
  all_goals first | (simp only [OB.kind] at h; cases h; done) | exact .inr (.inr ⟨by simp, by simp, by simp, by simp⟩)
theorem indexA_congr {t : Nat} {a x : Operand} (h : opd S' a = opd S a) (hx : opd S' x = opd S x) (hk : ∀ i, (S'.ob i).kind = (S.ob i).kind) (hop : o.op = .indexAddr t a x) (K : PV → Option OB → Option ρ) : evP E o S' al K = evP E o S al K := by
  simp only [evP, hop]
  rw [h, hx]
  split
  rotate_left
  · rfl
  split
  · rfl
  · rename_i ob _
    rcases kind_cases (hk ob) with ⟨d, v, v', e1, e2⟩ | ⟨T, xs, ys, e1, e2, e3⟩ | ⟨e1, e2, e3, e4⟩
    · rw [e1, e2]
    · rw [e1, e2]; simp only; rw [e3]
    · split
      · rename_i T xs e; exact absurd e (e4 T xs)
      · rename_i d v e; exact absurd e (e3 d v)
      · first
          | rfl
          | (split
             · rename_i T xs e; exact absurd e (e2 T xs)
             · rename_i d v e; exact absurd e (e1 d v)
             · rfl)
  · rename_i ob l hh _
    rcases kind_cases (hk ob) with ⟨d, v, v', e1, e2⟩ | ⟨T, xs, ys, e1, e2, e3⟩ | ⟨e1, e2, e3, e4⟩
    · rw [e1, e2]
    · rw [e1, e2]
    · split
      · rename_i T xs e; exact absurd e (e4 T xs)
      · first
          | rfl
          | (split
             · rename_i T xs e; exact absurd e (e2 T xs)
             · rfl)
  · rfl
theorem evP_pure_congr (hp : isPureOp o = true) (h : ∀ x ∈ o.op.operands, opd S' x = opd S x) (hk : ∀ i, (S'.ob i).kind = (S.ob i).kind) (K : PV → Option OB → Option ρ) : evP E o S' al K = evP E o S al K := by
  unfold isPureOp at hp
  split at hp
  · rename_i x hop
    simp only [evP, hop]
    rw [h x (by rw [hop]; simp [Op.operands])]
  · rename_i x hop
    simp only [evP, hop]
    rw [h x (by rw [hop]; simp [Op.operands])]
  · rename_i op t x y e hop
    simp only [evP, hop]
    rw [h x (by rw [hop]; simp [Op.operands]), h y (by rw [hop]; simp [Op.operands])]
  · rename_i a b x hop
    simp only [evP, hop]
    rw [h x (by rw [hop]; simp [Op.operands])]
  · rename_i t a f hop
    exact fieldA_congr (h a (by rw [hop]; simp [Op.operands])) hk hop K
  · rename_i t a x hop
    exact indexA_congr (h a (by rw [hop]; simp [Op.operands])) (h x (by rw [hop]; simp [Op.operands])) hk hop K
  · rename_i t ps hop
    simp only [evP, hop]
    simp only [buildK_congr ps.toList (fun p hp => h p.2 (by rw [hop]; simp only [Op.operands, List.mem_toArray, List.mem_map]; exact ⟨p, hp, rfl⟩))]
  · rename_i x i hop
    simp only [evP, hop]
    rw [h x (by rw [hop]; simp [Op.operands])]
  · rename_i c x y hop
    simp only [evP, hop]
    rw [h c (by rw [hop]; simp [Op.operands]), h x (by rw [hop]; simp [Op.operands]), h y (by rw [hop]; simp [Op.operands])]
  · cases hp
theorem evQuiet_pure (hp : isPureOp o = true) (K : PV → Option OB → Option ρ) : evQuiet E o S al K = evP E o S al K := by
  unfold isPureOp at hp
  unfold evQuiet
  split at hp <;> simp_all
theorem Res_pure {all : List Oper} {bf : List (List Nat)} {base i : Nat} {v : PV} {b : Option OB} (hp : isPureOp o = true) (hs : S'.slots = S.slots) (hlen : S'.objs.length = S.objs.length) (hk : ∀ i, (S'.ob i).kind = (S.ob i).kind) : Res E all bf base i o S' v b ↔ Res E all bf base i o S v b := by
  have h1 : known all o S' = known all o S := by unfold known; rw [hs]
  have h2 : wanted all o S' = wanted all o S := by unfold wanted; rw [hs]
  have h3 : ∀ K : PV → Option OB → Option (PV × Option OB), evQuiet E o (S'.mask base all.length (seen E all bf i)) (base + i) K = evQuiet E o (S.mask base all.length (seen E all bf i)) (base + i) K := fun K => by
    rw [evQuiet_pure hp, evQuiet_pure hp]
    refine evP_pure_congr hp (fun x hx => ?_) (fun j => mask_kind hk _ _ _ j) K
    rw [opd_mask, opd_mask]
    cases x with
    | tmp t => simp only [opd, hs]
    | _ => rfl
  unfold Res
  rw [h1, h2, h3, hlen]
theorem StoreRes.slots {S' : St} (h : StoreRes E o S S') : S'.slots = S.slots := by
  obtain ⟨t, a, x, p, _, _, rfl⟩ := h
  rfl
theorem storeV_len {t : Nat} {pa px : PV} {p : Nat × OB} (h : storeV E t pa px S.ob = some p) : (S.ob p.1).alive = true := by
  unfold storeV at h
  split at h
  · split at h
    · rename_i o q
      split at h
      · rename_i e v hob
        obtain ⟨_, h⟩ := cond_some h
        cases h
        simp only; rw [hob]; rfl
      · cases h
    · rename_i o i q
      split at h
      · rename_i T xs hob
        obtain ⟨_, h⟩ := cond_some h
        obtain ⟨y, _, h⟩ := optK_some h
        obtain ⟨_, h⟩ := cond_some h
        cases h
        simp only; rw [hob]; rfl
      · cases h
    · cases h
  · cases h
theorem storeV_kind {t : Nat} {pa px : PV} {p : Nat × OB} (h : storeV E t pa px S.ob = some p) : p.2.kind = (S.ob p.1).kind := by
  unfold storeV at h
  split at h
  · split at h
    · rename_i o q
      split at h
      · rename_i e v hob
        obtain ⟨_, h⟩ := cond_some h
        cases h
        simp only; rw [hob]; rfl
      · cases h
    · rename_i o i q
      split at h
      · rename_i T xs hob
        obtain ⟨_, h⟩ := cond_some h
        obtain ⟨y, _, h⟩ := optK_some h
        obtain ⟨_, h⟩ := cond_some h
        cases h
        simp only; rw [hob]; simp only [OB.kind]; rw [List.map_const', List.map_const', List.length_set]
      · cases h
    · cases h
  · cases h
theorem StoreRes.kind {S' : St} (h : StoreRes E o S S') (i : Nat) : (S'.ob i).kind = (S.ob i).kind := by
  obtain ⟨t, a, x, p, _, hp, rfl⟩ := h
  simp only [St.ob, St.setOb, List.getD, List.getElem?_set]
  split
  · rename_i e
    subst e
    have := storeV_kind hp
    split
    · simpa [St.ob, List.getD] using this
    · rename_i hlt
      rw [List.getElem?_eq_none (by omega)]
  · rfl
/-- a store, behind something in a variable that it does not read -/
theorem StoreRes.put {S' : St} {d : Option Tmp} {v : PV} (h : StoreRes E o S S') (hr : ∀ t, d = some t → Operand.tmp t ∉ o.op.operands) : StoreRes E o (S.put d v) (S'.put d v) := by
  obtain ⟨t, a, x, p, hop, hp, rfl⟩ := h
  have ho : ∀ y ∈ o.op.operands, opd (S.put d v) y = opd S y := fun y hy => opd_add (al := 0) (b := none) (fun t ht e => hr t ht (by rw [← e]; exact hy))
  have e1 : opd (S.put d v) a = opd S a := ho a (by rw [hop]; simp [Op.operands])
  have e2 : opd (S.put d v) x = opd S x := ho x (by rw [hop]; simp [Op.operands])
  have e3 : (S.put d v).ob = S.ob := by cases d <;> rfl
  refine ⟨t, a, x, p, hop, by rw [e1, e2, e3]; exact hp, ?_⟩
  cases d <;> rfl
theorem StoreRes.unput {S2 : St} {d : Option Tmp} {v : PV} (h : StoreRes E o (S.put d v) S2) (hr : ∀ t, d = some t → Operand.tmp t ∉ o.op.operands) : ∃ S', StoreRes E o S S' ∧ S2 = S'.put d v := by
  obtain ⟨t, a, x, p, hop, hp, rfl⟩ := h
  have ho : ∀ y ∈ o.op.operands, opd (S.put d v) y = opd S y := fun y hy => opd_add (al := 0) (b := none) (fun t ht e => hr t ht (by rw [← e]; exact hy))
  have e1 : opd (S.put d v) a = opd S a := ho a (by rw [hop]; simp [Op.operands])
  have e2 : opd (S.put d v) x = opd S x := ho x (by rw [hop]; simp [Op.operands])
  have e3 : (S.put d v).ob = S.ob := by cases d <;> rfl
  rw [e1, e2, e3] at hp
  refine ⟨_, ⟨t, a, x, p, hop, hp, rfl⟩, ?_⟩
  cases d <;> rfl
theorem ifEq_none {c : Bool} {op : BinOp} {x y : PV} {v : PV} {b : Option OB} (h : ifEq c op x y (fun v => some (v, (none : Option OB))) = some (v, b)) : b = none := by
  unfold ifEq at h
  obtain ⟨_, h⟩ := cond_some h
  split at h
  · cases h; rfl
  · cases h; rfl
  · cases h
theorem bin_none {okB okS : Bool} {q : Option Ty} {op : BinOp} {x y : PV} {v : PV} {b : Option OB} (h : bin okB okS q op x y (fun v => some (v, (none : Option OB))) = some (v, b)) : b = none := by
  have h2 := (bin_both okB okS q op x y (fun v _ => some (v, (none : Option OB)))).symm.trans h
  obtain ⟨p, _, h3⟩ := optK_some h2
  cases h3; rfl
theorem buildK_none {d : TD} {v' : PV} {b : Option OB} : ∀ (l : List (Nat × Operand)) (v : PV), evP.buildK S d l v (fun v => some (v, (none : Option OB))) = some (v', b) → b = none
  | [], v, h => by
    simp only [evP.buildK] at h
    cases h; rfl
  | p :: l, v, h => by
    simp only [evP.buildK] at h
    split at h
    · obtain ⟨_, h⟩ := cond_some h
      exact buildK_none l _ h
    · cases h
/-- .. makes no object -/
theorem pure_none {v : PV} {b : Option OB} (hp : isPureOp o = true) (h : evP E o S al (fun v b => some (v, b)) = some (v, b)) : b = none := by
  unfold isPureOp at hp
  split at hp
  · rename_i x hop
    simp only [evP, hop] at h
    cases h; rfl
  · rename_i x hop
    simp only [evP, hop] at h
    cases h; rfl
  · rename_i op t x y e hop
    simp only [evP, hop] at h
    cases hi : E.isIf t
    · rw [hi] at h; exact bin_none h
    · rw [hi] at h; exact ifEq_none h
  · rename_i a b' x hop
    simp only [evP, hop] at h
    repeat (first | (cases h; rfl) | (split at h))
    all_goals (first | (cases h; rfl) | simp at h)
  · rename_i t a f hop
    simp only [evP, hop] at h
    repeat' split at h
    all_goals (first | (obtain ⟨_, h⟩ := cond_some h; cases h; rfl) | cases h)
  · rename_i t a f hop
    simp only [evP, hop] at h
    repeat' split at h
    all_goals (first | (obtain ⟨_, h⟩ := cond_some h; cases h; rfl) | cases h)
  · rename_i t ps hop
    simp only [evP, hop] at h
    split at h
    · obtain ⟨_, h⟩ := cond_some h
      exact buildK_none _ _ h
    · cases h
  · rename_i x i hop
    simp only [evP, hop] at h
    split at h
    · obtain ⟨_, h⟩ := cond_some h
      cases h; rfl
    · cases h
  · rename_i c x y hop
    simp only [evP, hop] at h
    split at h
    · rename_i q _
      cases q <;> (cases h; rfl)
    · cases h
  · cases hp
theorem Res_pure_none {all : List Oper} {bf : List (List Nat)} {base i : Nat} {v : PV} {b : Option OB} (hp : isPureOp o = true) (h : Res E all bf base i o S v b) : b = none := by
  rcases h.2 with ⟨_, _, h⟩ | ⟨_, h, _⟩
  · exact h
  · rw [evQuiet_pure hp] at h
    exact pure_none hp h

/-! ### A load, before or behind a store into another object -/
theorem storeV_apart {t : Nat} {pa px pl : PV} {ob : Nat → OB} {p : Nat × OB} (h : storeV E t pa px ob = some p) (ha : apartPV pl pa = true) :
    (∃ x q, pl = .ptr x q ∧ x ≠ p.1) ∨ (∃ x i q, pl = .elo x i q ∧ x ≠ p.1) ∨ (∃ T x, pl = .el T x) ∨ pl = .undef := by
  have hp : (∃ q, pa = .ptr p.1 q) ∨ ∃ i q, pa = .elo p.1 i q := by
    unfold storeV at h
    split at h
    · split at h
      · rename_i o q
        split at h
        · obtain ⟨_, h⟩ := cond_some h
          cases h
          exact .inl ⟨_, rfl⟩
        · cases h
      · rename_i o i q
        split at h
        · obtain ⟨_, h⟩ := cond_some h
          obtain ⟨y, _, h⟩ := optK_some h
          obtain ⟨_, h⟩ := cond_some h
          cases h
          exact .inr ⟨_, _, rfl⟩
        · cases h
      · cases h
    · cases h
  cases pl <;> simp only [apartPV, Bool.false_eq_true] at ha
  case ptr x q =>
    rcases hp with ⟨q', e⟩ | ⟨i', q', e⟩ <;> subst e <;> simp only [Bool.not_eq_true'] at ha
    · exact .inl ⟨_, _, rfl, fun e => by rw [e, Nat.beq_refl] at ha; cases ha⟩
    · exact .inl ⟨_, _, rfl, fun e => by rw [e, Nat.beq_refl] at ha; cases ha⟩
  case elo x i q =>
    rcases hp with ⟨q', e⟩ | ⟨i', q', e⟩ <;> subst e <;> simp only [Bool.not_eq_true'] at ha
    · exact .inr (.inl ⟨_, _, _, rfl, fun e => by rw [e, Nat.beq_refl] at ha; cases ha⟩)
    · exact .inr (.inl ⟨_, _, _, rfl, fun e => by rw [e, Nat.beq_refl] at ha; cases ha⟩)
  case el T x => exact .inr (.inr (.inl ⟨_, _, rfl⟩))
  case undef => exact .inr (.inr (.inr rfl))
theorem loadAt_some {t : Nat} (h : loadAt o = some t) : ∃ ty, o.op = .load ty (.tmp t) := by
  unfold loadAt at h
  split at h
  · split at h
    · cases h; exact ⟨_, by assumption⟩
    · cases h
  · cases h
theorem load_quiet {t : Nat} (h : loadAt o = some t) : isQuiet E o = true := by
  obtain ⟨ty, hop⟩ := loadAt_some h
  simp only [isQuiet, hop]
theorem load_not_pure {t : Nat} (h : loadAt o = some t) : isPureOp o = false := by
  obtain ⟨ty, hop⟩ := loadAt_some h
  simp only [isPureOp, hop]
theorem load_read {all : List Oper} {t : Nat} (h : loadAt o = some t) : t ∈ readsOf all o := by
  obtain ⟨ty, hop⟩ := loadAt_some h
  exact operand_read (by rw [hop]; simp [Op.operands])
theorem Res_apart {S' : St} {all : List Oper} {bf : List (List Nat)} {base i : Nat} {v : PV} {b : Option OB} {t : Nat} {os : Oper} (hl : loadAt o = some t) (h : StoreRes E os S S')
    (hap : ∀ ty a x, os.op = .store ty a x → apartPV (S.slots.getD t .undef) (opd S a) = true) : Res E all bf base i o S' v b ↔ Res E all bf base i o S v b := by
  obtain ⟨t', a, x, p, hop, hp, rfl⟩ := h
  obtain ⟨ty, hl⟩ := loadAt_some hl
  have hap := storeV_apart hp (hap _ _ _ hop)
  have h1 : known all o (S.setOb p.1 p.2) = known all o S := rfl
  have h2 : wanted all o (S.setOb p.1 p.2) = wanted all o S := rfl
  have hob : ∀ y, y ≠ p.1 → ∀ bs : List Nat, ((S.setOb p.1 p.2).mask base all.length bs).ob y = (S.mask base all.length bs).ob y := fun y hy bs => by
    rw [mask_ob, mask_ob]
    have : (S.setOb p.1 p.2).ob y = S.ob y := by
      simp only [St.ob, St.setOb, List.getD]
      rw [List.getElem?_set_ne (fun e => hy e.symm)]
    rw [this]
  have h3 : ∀ K : PV → Option OB → Option (PV × Option OB), evQuiet E o ((S.setOb p.1 p.2).mask base all.length (seen E all bf i)) (base + i) K = evQuiet E o (S.mask base all.length (seen E all bf i)) (base + i) K := fun K => by
    have e : ∀ bs, opd ((S.setOb p.1 p.2).mask base all.length bs) (.tmp t) = S.slots.getD t .undef := fun _ => rfl
    have e' : ∀ bs, opd (S.mask base all.length bs) (.tmp t) = S.slots.getD t .undef := fun _ => rfl
    simp only [evQuiet, hl, evP, e, e']
    rcases hap with ⟨y, q, e1, hy⟩ | ⟨y, j, q, e1, hy⟩ | ⟨T, y, e1⟩ | e1
    · rw [e1]; simp only [hob y hy]
    · rw [e1]; simp only [hob y hy]
    · rw [e1]
    · rw [e1]
  have h4 : (S.setOb p.1 p.2).objs.length = S.objs.length := by simp [St.setOb]
  unfold Res
  rw [h1, h2, h3, h4]
theorem load_none {t : Nat} {v : PV} {b : Option OB} (hl : loadAt o = some t) (h : evQuiet E o S al (fun v b => some (v, b)) = some (v, b)) : b = none := by
  obtain ⟨ty, hl⟩ := loadAt_some hl
  simp only [evQuiet, hl, evP] at h
  repeat' split at h
  all_goals (first | cases h | (obtain ⟨_, h⟩ := cond_some h; first | (cases h; rfl) | (obtain ⟨_, _, h⟩ := optK_some h; obtain ⟨_, h⟩ := cond_some h; cases h; rfl)))
theorem Res_load_none {all : List Oper} {bf : List (List Nat)} {base i t : Nat} {v : PV} {b : Option OB} (hl : loadAt o = some t) (h : Res E all bf base i o S v b) : b = none := by
  rcases h.2 with ⟨_, _, h⟩ | ⟨_, h, _⟩
  · exact h
  · exact load_none hl h
theorem keptFrom_spec {a i j : Nat} : ∀ (l : List Oper) (m : Nat), keptFrom a i j m l = true → ∀ k q, l[k]? = some q → i ≤ m + k → m + k < j → q.dst ≠ some a
  | [], m, h, k, q, hk, _, _ => by simp at hk
  | p :: l, m, h, k, q, hk, h1, h2 => by
    simp only [keptFrom, Bool.and_eq_true] at h
    cases k with
    | zero =>
      simp only [List.getElem?_cons_zero, Option.some.injEq] at hk
      subst hk
      have : (Nat.ble i m && Nat.blt m j) = true := by simp; omega
      rw [this, cond_true] at h
      intro e
      rw [e] at h
      simp at h
    | succ k =>
      simp only [List.getElem?_cons_succ] at hk
      exact keptFrom_spec l (m + 1) h.2 k q hk (by omega) (by omega)
/-- loads (before the m-th) that store i need not wait for, and that are still to be done, are of other objects -/
def Late (all : List Oper) (bf : List (List Nat)) (L : Nat → Bool) (i m : Nat) (o : Oper) (S : St) : Prop :=
  ∀ k p t, k < m → L k = false → k ∉ bf.getD i [] → all[k]? = some p → loadAt p = some t → ∀ ty a x, o.op = .store ty a x → apartPV (S.slots.getD t .undef) (opd S a) = true
theorem lateOK_spec {bs : List Nat} {j : Nat} {a : PV} : ∀ (l : List Oper) (i : Nat), lateOK bs j a S i l = true → ∀ k p t, l[k]? = some p → i + k < j → i + k ∉ bs → loadAt p = some t → apartPV (S.slots.getD t .undef) a = true
  | [], i, h, k, p, t, hk, _, _, _ => by simp at hk
  | q :: l, i, h, k, p, t, hk, h1, h2, h3 => by
    simp only [lateOK, Bool.and_eq_true] at h
    cases k with
    | zero =>
      simp only [List.getElem?_cons_zero, Option.some.injEq] at hk
      subst hk
      have e1 : Nat.blt i j = true := by simp; omega
      have e2 : mem i bs = false := by
        rw [← Bool.not_eq_true, mem_iff]
        exact h2
      rw [e1, e2, cond_true, cond_false, h3] at h
      exact h.1
    | succ k =>
      simp only [List.getElem?_cons_succ] at hk
      exact lateOK_spec l (i + 1) h.2 k p t hk (by omega) (by rwa [show i + 1 + k = i + (k + 1) from by omega]) h3
theorem late_of {all : List Oper} {bf : List (List Nat)} {L : Nat → Bool} {j : Nat} (h : lateAll all bf j o S = true) : Late all bf L j j o S := by
  intro k p t h1 _ h2 h3 h4 ty a x hop
  simp only [lateAll, hop] at h
  exact lateOK_spec all 0 h k p t h3 (by simpa using h1) (by simpa using h2) h4
/-! ### A call that makes objects -/
theorem reach_congr {M M' : St} (h : M'.ob = M.ob) : ∀ (n : Nat) (l acc : List Nat), reach M' n l acc = reach M n l acc
  | 0, l, acc => rfl
  | n + 1, [], acc => rfl
  | n + 1, o :: l, acc => by simp only [reach, h, reach_congr h n]
theorem allAlive_congr {M M' : St} (h : M'.ob = M.ob) : ∀ l : List Nat, allAlive M' l = allAlive M l
  | [] => rfl
  | o :: l => by simp only [allAlive, h, allAlive_congr h l]
theorem closed_go_congr {M M' : St} (h : M'.ob = M.ob) (acc : List Nat) : ∀ l : List Nat, closed.go M' acc l = closed.go M acc l
  | [] => rfl
  | o :: l => by simp only [closed.go, h, closed_go_congr h acc l]
theorem bigArgs_congr {c : Call} {g : Nat} {M M' : St} (hop : o.op = .call c) (h : ∀ x ∈ o.op.operands, opd M' x = opd M x) : bigArgs c g M' = bigArgs c g M := by
  unfold bigArgs
  split
  · rename_i f hc
    have ha : c.args.toList.map (opd M') = c.args.toList.map (opd M) := map_congr (fun x hx => h x (by rw [hop]; simp only [Op.operands]; exact operands_call hx))
    rw [ha, h f (by rw [hop]; simp only [Op.operands]; exact operands_callee hc)]
  · rfl
theorem bigK_congr {M M' : St} (ho : M'.objs = M.objs) (h : ∀ x ∈ o.op.operands, opd M' x = opd M x) (K : PV → List OB → Option ρ) : bigK E o M' K = bigK E o M K := by
  have hob := ob_objs ho
  unfold bigK
  split
  · rename_i c hop
    split
    · rename_i g hc
      rw [bigArgs_congr hop h]
      split
      · simp only [reach_congr hob, allAlive_congr hob, closed, closed_go_congr hob, hob, ho]
      · rfl
    · rfl
  · rfl
theorem bigK_both {M : St} {K : PV → List OB → Option ρ} {r : ρ} (h : bigK E o M K = some r) : ∃ v new, bigK E o M (fun v new => some (v, new)) = some (v, new) ∧ K v new = some r := by
  unfold bigK at h ⊢
  split at h
  · rename_i c hop
    split at h
    · rename_i g hc
      split at h
      · obtain ⟨h1, h⟩ := cond_some h
        rw [(E.call g).param] at h
        split at h
        · rename_i p h3
          simp only
          rw [h1, cond_true, (E.call g).param, h3]
          exact ⟨_, _, rfl, h⟩
        · cases h
      · cases h
    · cases h
  · cases h
def BigRes (E : Env) (all : List Oper) (bf : List (List Nat)) (base j : Nat) (o : Oper) (S : St) (v : PV) (new : List OB) : Prop :=
  bigK E o (S.mask base all.length (seen E all bf j)) (fun v new => some (v, new)) = some (v, new) ∧ okOid base all.length j (seen E all bf j) (v.oids ++ oidsO new) = true ∧ boundL (S.objs.length + new.length) (v.oids ++ oidsO new) = true
theorem big_call {bf : List (List Nat)} {j : Nat} (h : isBig E bf j o = true) : ∃ c g, o.op = .call c ∧ bigFn E c = some g ∧ o.guard = none ∧ (E.call g).quiet = false ∧ (E.call g).modes = [] ∧ (laterFree j (bf.drop (j + 1)) || !allBefore (bf.getD j []) j) = true := by
  unfold isBig at h
  split at h
  · rename_i c hop
    split at h
    · rename_i g hc
      simp only [Bool.and_eq_true, Bool.not_eq_true', List.isEmpty_iff] at h
      refine ⟨c, g, hop, hc, ?_, h.2.1, h.2.2.1, h.2.2.2⟩
      have := h.1
      cases hg : o.guard with
      | none => rfl
      | some q => rw [hg] at this; cases this
    · cases h
  · cases h
theorem bigFn_some {c : Call} {g : Nat} (h : bigFn E c = some g) : ∃ f, c.callee = .value f ∧ (f = .func g ∨ ∃ t, f = .tmp t ∧ E.fv t = some g) := by
  unfold bigFn at h
  split at h
  · rename_i f hc
    split at h
    · cases h; exact ⟨_, hc, .inl rfl⟩
    · exact ⟨_, hc, .inr ⟨_, rfl, h⟩⟩
    · cases h
  · cases h
theorem big_not_quiet {bf : List (List Nat)} {j : Nat} (h : isBig E bf j o = true) : isQuiet E o = false := by
  obtain ⟨c, g, h1, h2, _, h3, _⟩ := big_call h
  obtain ⟨f, hc, rfl | ⟨t, rfl, ht⟩⟩ := bigFn_some h2
  · simp only [isQuiet, h1, hc, h3]
  · simp only [isQuiet, h1, hc, ht, h3]
theorem big_not_store {bf : List (List Nat)} {j : Nat} (h : isBig E bf j o = true) : isStore0 o = false := by
  obtain ⟨c, g, h1, _⟩ := big_call h
  simp only [isStore0, h1]
theorem store_not_big {bf : List (List Nat)} {j : Nat} (h : isStore0 o = true) : isBig E bf j o = false := by
  cases hb : isBig E bf j o
  · rfl
  · rw [big_not_store hb] at h; cases h
theorem app_objs {d : Option Tmp} {v : PV} {new : List OB} : (S.app d v new).objs = S.objs ++ new := by unfold St.app; rw [put_objs]
theorem app_slots {d : Option Tmp} {v : PV} {new : List OB} : (S.app d v new).slots = match d with | none => S.slots | some t => S.slots.set t v := by
  unfold St.app
  cases d <;> rfl
theorem app_touched {d : Option Tmp} {v : PV} {new : List OB} : (S.app d v new).touched = S.touched := by
  unfold St.app
  cases d <;> rfl
theorem slot_app {d : Option Tmp} {v : PV} {new : List OB} {t : Nat} (h : d ≠ some t) : (S.app d v new).slots.getD t .undef = S.slots.getD t .undef := by
  rw [app_slots]
  cases d with
  | none => rfl
  | some t' => simp only [List.getD, List.getElem?_set]; rw [if_neg (fun e => h (by rw [e]))]
theorem opd_app {d : Option Tmp} {v : PV} {new : List OB} {x : Operand} (h : ∀ t, d = some t → x ≠ .tmp t) : opd (S.app d v new) x = opd S x := by
  cases x with
  | tmp t => exact slot_app (fun e => h t e rfl)
  | _ => rfl
theorem seesTop_spec {bf : List (List Nat)} {bs : List Nat} {i : Nat} : ∀ (l : List Oper) (k : Nat), seesTop E bf bs i k l = true → ∀ m p, l[m]? = some p → isBig E bf (k + m) p = true → (k + m < i → k + m ∈ bs) ∧ (i < k + m → i ∈ bf.getD (k + m) [])
  | [], k, h, m, p, hm, _ => by simp at hm
  | q :: l, k, h, m, p, hm, h2 => by
    simp only [seesTop, Bool.and_eq_true] at h
    cases m with
    | zero =>
      simp only [List.getElem?_cons_zero, Option.some.injEq] at hm
      subst hm
      have h0 := h.1
      rw [show isBig E bf k q = true from by simpa using h2, cond_true] at h0
      simp only [Nat.add_zero]
      refine ⟨fun h1 => ?_, fun h1 => ?_⟩
      · rw [show Nat.blt k i = true from by simpa using h1, cond_true, mem_iff] at h0
        exact h0
      · rw [show Nat.blt k i = false from by rw [← Bool.not_eq_true]; simp; omega, cond_false, Bool.or_eq_true, mem_iff] at h0
        rcases h0 with h0 | h0
        · have : k = i := by simpa using h0
          omega
        · exact h0
    | succ m =>
      simp only [List.getElem?_cons_succ] at hm
      have := seesTop_spec l (k + 1) h.2 m p hm (by rwa [show k + 1 + m = k + (m + 1) from by omega])
      rwa [show k + 1 + m = k + (m + 1) from by omega] at this
theorem top_hidden {all : List Oper} {bf : List (List Nat)} {i j : Nat} {p : Oper} (hj : all[j]? = some p) (hb : isBig E bf j p = true) (hji : j < i) (hi : i < all.length) (hn : j ∉ bf.getD i []) (hbf : ∀ x ∈ bf.getD i [], x < i) : mem all.length (seen E all bf i) = false := by
  unfold seen
  cases hs : seesTop E bf (bf.getD i []) i 0 all
  · rw [cond_false, ← Bool.not_eq_true, mem_iff]
    intro h
    have := hbf _ h
    omega
  · have := (seesTop_spec all 0 hs j p hj (by simpa using hb)).1 (by omega)
    exact absurd (by simpa using this) hn
/-- .. from what need not stand before a call further down -/
theorem top_hidden2 {all : List Oper} {bf : List (List Nat)} {i j : Nat} {p : Oper} (hj : all[j]? = some p) (hb : isBig E bf j p = true) (hij : i < j) (hi : i < all.length) (hn : i ∉ bf.getD j []) (hbf : ∀ x ∈ bf.getD i [], x < i) : mem all.length (seen E all bf i) = false := by
  unfold seen
  cases hs : seesTop E bf (bf.getD i []) i 0 all
  · rw [cond_false, ← Bool.not_eq_true, mem_iff]
    intro h
    have := hbf _ h
    omega
  · have := (seesTop_spec all 0 hs j p hj (by simpa using hb)).2 (by omega)
    exact absurd (by simpa using this) hn
theorem mem_seen {all : List Oper} {bf : List (List Nat)} {i k : Nat} (hk : k < all.length) : mem k (seen E all bf i) = true ↔ k ∈ bf.getD i [] := by
  unfold seen
  cases seesTop E bf (bf.getD i []) i 0 all
  · rw [cond_false, mem_iff]
  · rw [cond_true, mem_iff, List.mem_cons]
    constructor
    · rintro (h | h)
      · omega
      · exact h
    · exact .inr
theorem vis_in {all : List Oper} {bf : List (List Nat)} {base i k : Nat} (hk : k < all.length) : vis base all.length (seen E all bf i) (base + k) = true ↔ k ∈ bf.getD i [] := by
  have h1 : Nat.blt (base + k) base = false := by rw [← Bool.not_eq_true]; simp
  have h2 : Nat.ble (base + all.length) (base + k) = false := by rw [← Bool.not_eq_true]; simp; omega
  unfold vis
  rw [h1, h2, Bool.false_or, cond_false, Nat.add_sub_cancel_left, mem_seen hk]
theorem Res_app {all : List Oper} {bf : List (List Nat)} {base i : Nat} {p : Oper} {v v' : PV} {b : Option OB} {new : List OB} (hp : ∀ d, p.dst = some d → d ∉ readsOf all o) (hl : base + all.length ≤ S.objs.length) (hi : i < all.length)
    (ht : mem all.length (seen E all bf i) = false) (h : Res E all bf base i o (S.app p.dst v' new) v b) : Res E all bf base i o S v b := by
  have h1 : known all o (S.app p.dst v' new) = known all o S := by
    unfold known
    cases hg : guardOf all o with
    | none => rfl
    | some q =>
      cases q with
      | none => rfl
      | some q => simp only [slot_app (fun e => hp q.1 e (guard_read (want := q.2) hg))]
  have h2 : wanted all o (S.app p.dst v' new) = wanted all o S := by
    unfold wanted
    cases hg : guardOf all o with
    | none => rfl
    | some q =>
      cases q with
      | none => rfl
      | some q => simp only [slot_app (fun e => hp q.1 e (guard_read (want := q.2) hg))]
  have hv : ∀ x, vis base all.length (seen E all bf i) x = true → x < S.objs.length := fun x hx => by
    unfold vis at hx
    rcases Nat.lt_or_ge x (base + all.length) with h | h
    · omega
    · have h3 : Nat.blt x base = false := by rw [← Bool.not_eq_true]; simp; omega
      have h4 : Nat.ble (base + all.length) x = true := by simpa using h
      rw [h3, h4, ht] at hx
      cases hx
  have hob : ((S.app p.dst v' new).mask base all.length (seen E all bf i)).ob = (S.mask base all.length (seen E all bf i)).ob := by
    funext x
    rw [mask_ob, mask_ob]
    cases hx : vis base all.length (seen E all bf i) x
    · rfl
    · simp only [cond_true, St.ob, app_objs, List.getD]
      rw [List.getElem?_append_left (hv x hx)]
  have h3 : ∀ K : PV → Option OB → Option (PV × Option OB), evQuiet E o ((S.app p.dst v' new).mask base all.length (seen E all bf i)) (base + i) K = evQuiet E o (S.mask base all.length (seen E all bf i)) (base + i) K := fun K => by
    refine evQuiet_congr hob (fun x hx => ?_) K
    rw [opd_mask, opd_mask]
    exact opd_app (fun t ht e => hp t ht (operand_read (by rw [← e]; exact hx)))
  unfold Res at h ⊢
  rw [h1, h2, h3] at h
  refine ⟨h.1, h.2.imp id fun ⟨g1, g2, g3, g4, g5⟩ => ⟨g1, g2, g3, ?_, g5⟩⟩
  rw [boundL_iff]
  intro x hx
  have hok : ∀ (l : List Nat), okOid base all.length i (seen E all bf i) l = true → ∀ x ∈ l, vis base all.length (seen E all bf i) x = true ∨ x = base + i := by
    intro l
    induction l with
    | nil => intro _ x hx; cases hx
    | cons y l ih =>
      intro h x hx
      simp only [okOid, Bool.and_eq_true] at h
      rcases List.mem_cons.1 hx with rfl | hx
      · have h := h.1
        unfold vis
        simp only [Bool.or_eq_true] at h ⊢
        rcases h with h | h | h
        · exact .inl (.inl h)
        · exact .inr (by simpa using h)
        · exact .inl (.inr h)
      · exact ih h.2 x hx
  rcases hok _ g3 x hx with h | h
  · exact hv x h
  · omega
theorem Res_app2 {all : List Oper} {bf : List (List Nat)} {base i : Nat} {p : Oper} {v v' : PV} {b : Option OB} {new : List OB} (hp : ∀ d, p.dst = some d → d ∉ readsOf all o) (hl : base + all.length ≤ S.objs.length) (hi : i < all.length)
    (ht : mem all.length (seen E all bf i) = false) (h : Res E all bf base i o S v b) : Res E all bf base i o (S.app p.dst v' new) v b := by
  have h1 : known all o (S.app p.dst v' new) = known all o S := by
    unfold known
    cases hg : guardOf all o with
    | none => rfl
    | some q =>
      cases q with
      | none => rfl
      | some q => simp only [slot_app (fun e => hp q.1 e (guard_read (want := q.2) hg))]
  have h2 : wanted all o (S.app p.dst v' new) = wanted all o S := by
    unfold wanted
    cases hg : guardOf all o with
    | none => rfl
    | some q =>
      cases q with
      | none => rfl
      | some q => simp only [slot_app (fun e => hp q.1 e (guard_read (want := q.2) hg))]
  have hv : ∀ x, vis base all.length (seen E all bf i) x = true → x < S.objs.length := fun x hx => by
    unfold vis at hx
    rcases Nat.lt_or_ge x (base + all.length) with h | h
    · omega
    · have h3 : Nat.blt x base = false := by rw [← Bool.not_eq_true]; simp; omega
      have h4 : Nat.ble (base + all.length) x = true := by simpa using h
      rw [h3, h4, ht] at hx
      cases hx
  have hob : ((S.app p.dst v' new).mask base all.length (seen E all bf i)).ob = (S.mask base all.length (seen E all bf i)).ob := by
    funext x
    rw [mask_ob, mask_ob]
    cases hx : vis base all.length (seen E all bf i) x
    · rfl
    · simp only [cond_true, St.ob, app_objs, List.getD]
      rw [List.getElem?_append_left (hv x hx)]
  have h3 : ∀ K : PV → Option OB → Option (PV × Option OB), evQuiet E o ((S.app p.dst v' new).mask base all.length (seen E all bf i)) (base + i) K = evQuiet E o (S.mask base all.length (seen E all bf i)) (base + i) K := fun K => by
    refine evQuiet_congr hob (fun x hx => ?_) K
    rw [opd_mask, opd_mask]
    exact opd_app (fun t ht e => hp t ht (operand_read (by rw [← e]; exact hx)))
  unfold Res at h ⊢
  rw [h1, h2, h3]
  refine ⟨h.1, h.2.imp id fun ⟨g1, g2, g3, g4, g5⟩ => ⟨g1, g2, g3, ?_, g5⟩⟩
  rw [boundL_iff] at g4 ⊢
  intro x hx
  have := g4 x hx
  rw [app_objs, List.length_append]
  omega
theorem add_app_comm {al : Nat} {d d' : Option Tmp} {v v' : PV} {b' : Option OB} {new : List OB} (h : al < S.objs.length) (hd : ∀ t, d = some t → d' ≠ some t) :
    (S.app d v new).add al d' v' b' = (S.add al d' v' b').app d v new := by
  have h' : al < (S.app d v new).objs.length := by rw [app_objs, List.length_append]; omega
  apply St.ext
  · simp only [add_slots, app_slots]
    cases d with
    | none => cases d' <;> rfl
    | some t =>
      cases d' with
      | none => rfl
      | some t' => exact List.set_comm _ _ (fun e => hd t rfl (by rw [e]))
  · rw [add_objs h', app_objs, app_objs, add_objs h]
    cases b' with
    | none => rfl
    | some b => exact List.set_append_left _ _ h
  · simp only [add_touched, app_touched]
theorem BigRes_add {all : List Oper} {bf : List (List Nat)} {base i j : Nat} {p : Oper} {v v' : PV} {b' : Option OB} {new : List OB} (hp : ∀ d, p.dst = some d → d ∉ readsOf all o) (hl : base + i < S.objs.length)
    (hv : vis base all.length (seen E all bf j) (base + i) = false) : BigRes E all bf base j o (S.add (base + i) p.dst v' b') v new ↔ BigRes E all bf base j o S v new := by
  have h3 : ∀ K : PV → List OB → Option (PV × List OB), bigK E o ((S.add (base + i) p.dst v' b').mask base all.length (seen E all bf j)) K = bigK E o (S.mask base all.length (seen E all bf j)) K := fun K => by
    refine bigK_congr (mask_add hl hv) (fun x hx => ?_) K
    rw [opd_mask, opd_mask]
    exact opd_add (fun t ht e => hp t ht (operand_read (by rw [← e]; exact hx)))
  unfold BigRes
  rw [h3, add_len hl]
/-! ### What is still to be done -/
def Rest (E : Env) (all : List Oper) (bf : List (List Nat)) (base : Nat) (K : St → Option ρ) (r : ρ) (L : Nat → Bool) : Nat → List Oper → St → Prop
  | _, [], S => K S = some r
  | j, o :: l, S =>
    if L j then Rest E all bf base K r L (j + 1) l S
    else if isQuiet E o then ∃ v b, Res E all bf base j o S v b ∧ Rest E all bf base K r L (j + 1) l (S.add (base + j) o.dst v b)
    else if isStore0 o then ∃ S', StoreRes E o S S' ∧ Late all bf L j j o S ∧ Rest E all bf base K r L (j + 1) l S'
    else if isBig E bf j o then ∃ v new, BigRes E all bf base j o S v new ∧ Rest E all bf base K r L (j + 1) l (S.app o.dst v new)
    else wantK all o S (fun S => cond (lateAll all bf j o S) (evF E o S (base + j) fun S' => cond (pastOK S' base all.length j && cond (hasBig E bf 0 all) (noItFrom S' base all.length) true) (evDraw E all bf base (j + 1) l S' K) none) none)
      (fun S => cond (pastOK (S.put o.dst .undef) base all.length j && cond (hasBig E bf 0 all) (noItFrom (S.put o.dst .undef) base all.length) true) (evDraw E all bf base (j + 1) l (S.put o.dst .undef) K) none) = some r
variable {all : List Oper} {bf : List (List Nat)} {base : Nat} {K : St → Option ρ} {r : ρ}
theorem rest_of_draw : ∀ (l : List Oper) (j : Nat) (S : St) (L : Nat → Bool), evDraw E all bf base j l S K = some r → (∀ k, j ≤ k → L k = false) → Rest E all bf base K r L j l S
  | [], j, S, L, h, hL => by simpa only [evDraw, Rest] using h
  | o :: l, j, S, L, h, hL => by
    simp only [evDraw] at h
    simp only [Rest, hL j (Nat.le_refl _), Bool.false_eq_true, if_false]
    by_cases hq : isQuiet E o = true
    · rw [if_pos hq]
      simp only [hq, cond_true] at h
      have hk := wantK_known h
      rcases wantK_some h with ⟨hw, h⟩ | ⟨hw, h⟩
      · obtain ⟨v, b, h1, h2⟩ := evQuiet_both h
        obtain ⟨h3, h2⟩ := cond_some h2
        simp only [Bool.and_eq_true] at h3
        refine ⟨v, b, ⟨hk, .inr ⟨hw, h1, h3.1.1, h3.1.2, fun hb => ?_⟩⟩, rest_of_draw l (j + 1) _ L h2 (fun k hk => hL k (by omega))⟩
        rw [hb] at h3
        exact h3.2
      · exact ⟨.undef, none, ⟨hk, .inl ⟨hw, rfl, rfl⟩⟩, rest_of_draw l (j + 1) _ L h (fun k hk => hL k (by omega))⟩
    · rw [if_neg hq]
      simp only [hq, cond_false] at h
      by_cases hs : isStore0 o = true
      · rw [if_pos hs]
        obtain ⟨_, _, hg⟩ := isStore0_some hs
        have hg' : guardOf all o = some none := by simp [guardOf, hg]
        simp only [wantK, hg', store_not_big hs, cond_false] at h
        obtain ⟨hlate, h⟩ := cond_some h
        obtain ⟨S', h1, h2⟩ := storeRes_of hs h
        obtain ⟨_, h2⟩ := cond_some h2
        exact ⟨S', h1, late_of hlate, rest_of_draw l (j + 1) S' L h2 (fun k hk => hL k (by omega))⟩
      · rw [if_neg hs]
        by_cases hb : isBig E bf j o = true
        · rw [if_pos hb]
          obtain ⟨_, _, _, _, hg, _⟩ := big_call hb
          have hg' : guardOf all o = some none := by simp [guardOf, hg]
          simp only [wantK, hg', hb, cond_true] at h
          obtain ⟨v, new, h1, h2⟩ := bigK_both h
          obtain ⟨h3, h2⟩ := cond_some h2
          rw [Bool.and_eq_true] at h3
          exact ⟨v, new, ⟨h1, h3.1, h3.2⟩, rest_of_draw l (j + 1) _ L h2 (fun k hk => hL k (by omega))⟩
        · rw [if_neg hb]
          simp only [hb, cond_false] at h
          exact h
def addL (L : Nat → Bool) (i : Nat) : Nat → Bool := fun k => Nat.beq k i || L k
theorem addL_same (L : Nat → Bool) (i : Nat) : addL L i i = true := by simp [addL]
theorem addL_other (L : Nat → Bool) {i k : Nat} (h : k ≠ i) : addL L i k = L k := by
  simp only [addL]
  have : Nat.beq k i = false := by rw [← Bool.not_eq_true]; simpa using h
  rw [this]; rfl
theorem Late.add {L : Nat → Bool} {i j m : Nat} (h : Late all bf L j m o S) : Late all bf (addL L i) j m o S := fun k p t h1 h2 => h k p t h1 (by
  simp only [addL, Bool.or_eq_false_iff] at h2
  exact h2.2)
theorem rest_add {i : Nat} : ∀ (l : List Oper) (j : Nat) (S : St) (L : Nat → Bool), i < j → Rest E all bf base K r L j l S → Rest E all bf base K r (addL L i) j l S
  | [], j, S, L, hL, h => by simpa only [Rest] using h
  | o :: l, j, S, L, hL, h => by
    simp only [Rest] at h ⊢
    rw [addL_other L (by omega)]
    split
    · rename_i hj
      rw [if_pos hj] at h
      exact rest_add l (j + 1) S L (by omega) h
    · rename_i hj
      rw [if_neg hj] at h
      split
      · rename_i hq
        rw [if_pos hq] at h
        obtain ⟨v, b, h1, h2⟩ := h
        exact ⟨v, b, h1, rest_add l (j + 1) _ L (by omega) h2⟩
      · rename_i hq
        rw [if_neg hq] at h
        split
        · rename_i hs
          rw [if_pos hs] at h
          obtain ⟨S', h1, h2, h3⟩ := h
          exact ⟨S', h1, h2.add, rest_add l (j + 1) _ L (by omega) h3⟩
        · rename_i hs
          rw [if_neg hs] at h
          split
          · rename_i hb
            rw [if_pos hb] at h
            obtain ⟨v, new, h1, h2⟩ := h
            exact ⟨v, new, h1, rest_add l (j + 1) _ L (by omega) h2⟩
          · rename_i hb
            rwa [if_neg hb] at h
/-- an operation that may be next can be taken first -/
theorem Rest.pick {L : Nat → Bool} {i : Nat} {oi : Oper} (hi : all[i]? = some oi) (hLi : L i = false) (hq : isQuiet E oi = true) (hin : i < all.length) : ∀ (l : List Oper) (j : Nat) (S : St), all.drop j = l → j ≤ i → base + all.length ≤ S.objs.length →
    (∀ k, k < i → L k = false → ∀ ok, all[k]? = some ok → ((isQuiet E ok = true ∨ isPureOp oi = true ∧ isStore0 ok = true) ∨ isBig E bf k ok = true ∧ mem all.length (seen E all bf i) = false) ∧ Indep all oi ok ∧ vis base all.length (seen E all bf i) (base + k) = false ∧ vis base all.length (seen E all bf k) (base + i) = false) →
    Rest E all bf base K r L j l S → ∃ v b, Res E all bf base i oi S v b ∧ Rest E all bf base K r (addL L i) j l (S.add (base + i) oi.dst v b)
  | [], j, S, hl, hj, _, _, h => by
    have : all[i]? = none := by
      have e := congrArg List.length hl
      simp at e
      simp; omega
    rw [this] at hi; cases hi
  | o :: l, j, S, hl, hj, hob, hind, h => by
    have hjo : all[j]? = some o := by
      have := congrArg (·[0]?) hl
      simpa using this
    have hl' : all.drop (j + 1) = l := by
      have := congrArg List.tail hl
      simpa using this
    have hjn : j < all.length := (List.getElem?_eq_some_iff.1 hjo).1
    simp only [Rest] at h
    by_cases e : j = i
    · subst e
      rw [hjo] at hi
      cases hi
      rw [hLi, if_neg (by simp), if_pos hq] at h
      obtain ⟨v, b, h1, h2⟩ := h
      refine ⟨v, b, h1, ?_⟩
      simp only [Rest, addL_same, if_true]
      exact rest_add l (j + 1) _ L (by omega) h2
    · by_cases hLj : L j = true
      · rw [if_pos hLj] at h
        obtain ⟨v, b, h1, h2⟩ := Rest.pick hi hLi hq hin l (j + 1) S hl' (by omega) hob hind h
        refine ⟨v, b, h1, ?_⟩
        simp only [Rest, addL_other L e, hLj, if_true]
        exact h2
      · rw [if_neg hLj] at h
        have hLj' : L j = false := by simpa using hLj
        obtain ⟨g1, g2, g3, g4⟩ := hind j (by omega) hLj' o hjo
        rcases g1 with (g1 | ⟨gp, gs⟩) | ⟨gb, gt⟩
        rotate_left 2
        · have gq := big_not_quiet gb
          have gs := big_not_store gb
          rw [if_neg (show ¬ isQuiet E o = true by simp [gq]), if_neg (show ¬ isStore0 o = true by simp [gs]), if_pos gb] at h
          obtain ⟨vj, new, h1, h2⟩ := h
          have hlen2 : base + i < S.objs.length := by omega
          obtain ⟨v, b, h3, h4⟩ := Rest.pick hi hLi hq hin l (j + 1) _ hl' (by omega) (by rw [app_objs, List.length_append]; omega) hind h2
          have h3 := Res_app g2.1 hob hin gt h3
          refine ⟨v, b, h3, ?_⟩
          simp only [Rest, addL_other L e, hLj, if_false]
          rw [if_neg (show ¬ isQuiet E o = true by simp [gq]), if_neg (show ¬ isStore0 o = true by simp [gs]), if_pos gb]
          refine ⟨vj, new, (BigRes_add g2.symm.1 hlen2 g4).2 h1, ?_⟩
          rw [← add_app_comm hlen2 (fun t ht => g2.symm.2.2 t ht)]
          exact h4
        rotate_left
        · have gq := store_not_quiet (E := E) gs
          have hdj : o.dst = none := (isStore0_some gs).2.1
          rw [if_neg (show ¬ isQuiet E o = true by simp [gq]), if_pos gs] at h
          obtain ⟨S', h1, hlate, h2⟩ := h
          have hl2 : S'.objs.length = S.objs.length := by
            obtain ⟨t, a, x, p, _, _, rfl⟩ := h1
            simp [St.setOb]
          obtain ⟨v, b, h3, h4⟩ := Rest.pick hi hLi hq hin l (j + 1) S' hl' (by omega) (by rw [hl2]; exact hob) hind h2
          have hb := Res_pure_none gp h3
          subst hb
          rw [Res_pure gp h1.slots hl2 h1.kind] at h3
          refine ⟨v, none, h3, ?_⟩
          simp only [Rest, addL_other L e, hLj, if_false]
          rw [if_neg (show ¬ isQuiet E o = true by simp [gq]), if_pos gs]
          refine ⟨_, h1.put (fun t ht hm => g2.2.1 t ht (operand_read hm)), ?_, h4⟩
          intro k p t k1 k2 k3 k4 k5 ty a x k6
          have k2' : L k = false := by
            simp only [addL, Bool.or_eq_false_iff] at k2
            exact k2.2
          have k7 := hlate k p t k1 k2' k3 k4 k5 ty a x k6
          have g5 := (hind k (by omega) k2' p k4).2.1
          rw [slot_add (fun e => g5.2.1 t e (load_read k5)), opd_add (fun t' ht' e => g2.2.1 t' ht' (operand_read (by rw [k6, e]; simp [Op.operands])))]
          exact k7
        rw [if_pos g1] at h
        obtain ⟨vj, bj, h1, h2⟩ := h
        have hlen : base + j < S.objs.length := by omega
        have hlen2 : base + i < S.objs.length := by omega
        obtain ⟨v, b, h3, h4⟩ := Rest.pick hi hLi hq hin l (j + 1) _ hl' (by omega) (by rw [add_len hlen]; exact hob) hind h2
        rw [Res_local g2.1 hlen g3] at h3
        refine ⟨v, b, h3, ?_⟩
        simp only [Rest, addL_other L e, hLj, if_false]
        rw [if_pos g1]
        refine ⟨vj, bj, (Res_local g2.symm.1 hlen2 g4).2 h1, ?_⟩
        rw [add_comm hlen2 hlen (by omega) (fun t ht => g2.2.2 t ht)]
        exact h4
/-- a call of an inlined function that may be next can be taken first: what stands before it in the text is quiet -/
theorem Rest.pickBig {L : Nat → Bool} {i : Nat} {oi : Oper} (hi : all[i]? = some oi) (hLi : L i = false) (hb : isBig E bf i oi = true) (hin : i < all.length) : ∀ (l : List Oper) (j : Nat) (S : St), all.drop j = l → j ≤ i → base + all.length ≤ S.objs.length →
    (∀ k, k < i → L k = false → ∀ ok, all[k]? = some ok → isQuiet E ok = true ∧ mem all.length (seen E all bf k) = false ∧ Indep all oi ok ∧ vis base all.length (seen E all bf i) (base + k) = false) →
    Rest E all bf base K r L j l S → ∃ v new, BigRes E all bf base i oi S v new ∧ Rest E all bf base K r (addL L i) j l (S.app oi.dst v new)
  | [], j, S, hl, hj, _, _, h => by
    have : all[i]? = none := by
      have e := congrArg List.length hl
      simp at e
      simp; omega
    rw [this] at hi; cases hi
  | o :: l, j, S, hl, hj, hob, hind, h => by
    have hjo : all[j]? = some o := by
      have := congrArg (·[0]?) hl
      simpa using this
    have hl' : all.drop (j + 1) = l := by
      have := congrArg List.tail hl
      simpa using this
    have hjn : j < all.length := (List.getElem?_eq_some_iff.1 hjo).1
    simp only [Rest] at h
    by_cases e : j = i
    · subst e
      rw [hjo] at hi
      cases hi
      rw [hLi, if_neg (by simp), if_neg (show ¬ isQuiet E oi = true by simp [big_not_quiet hb]), if_neg (show ¬ isStore0 oi = true by simp [big_not_store hb]), if_pos hb] at h
      obtain ⟨v, new, h1, h2⟩ := h
      refine ⟨v, new, h1, ?_⟩
      simp only [Rest, addL_same, if_true]
      exact rest_add l (j + 1) _ L (by omega) h2
    · by_cases hLj : L j = true
      · rw [if_pos hLj] at h
        obtain ⟨v, new, h1, h2⟩ := Rest.pickBig hi hLi hb hin l (j + 1) S hl' (by omega) hob hind h
        refine ⟨v, new, h1, ?_⟩
        simp only [Rest, addL_other L e, hLj, if_true]
        exact h2
      · rw [if_neg hLj] at h
        have hLj' : L j = false := by simpa using hLj
        obtain ⟨g1, gt, g2, g3⟩ := hind j (by omega) hLj' o hjo
        rw [if_pos g1] at h
        obtain ⟨vj, bj, h1, h2⟩ := h
        have hlen : base + j < S.objs.length := by omega
        obtain ⟨v, new, h3, h4⟩ := Rest.pickBig hi hLi hb hin l (j + 1) _ hl' (by omega) (by rw [add_len hlen]; exact hob) hind h2
        rw [BigRes_add g2.1 hlen g3] at h3
        refine ⟨v, new, h3, ?_⟩
        simp only [Rest, addL_other L e, hLj, if_false]
        rw [if_pos g1]
        refine ⟨vj, bj, Res_app2 g2.symm.1 hob hjn gt h1, ?_⟩
        rw [add_app_comm hlen (fun t ht => g2.2.2 t ht)]
        exact h4
/-- a store that may be next can be taken first: what stands before it in the text works on variables alone, or loads from other objects -/
theorem Rest.pickStore {L : Nat → Bool} {i : Nat} {oi : Oper} (hi : all[i]? = some oi) (hLi : L i = false) (hs : isStore0 oi = true) (hin : i < all.length)
    (hind : ∀ k, k < i → L k = false → ∀ ok, all[k]? = some ok → (isPureOp ok = true ∨ ∃ t, loadAt ok = some t ∧ keptFrom t k i 0 all = true) ∧ k ∉ bf.getD i [] ∧ Indep all oi ok) : ∀ (l : List Oper) (j : Nat) (S : St), all.drop j = l → j ≤ i →
    Rest E all bf base K r L j l S → ∃ S', StoreRes E oi S S' ∧ Late all bf L i j oi S ∧ Rest E all bf base K r (addL L i) j l S'
  | [], j, S, hl, hj, h => by
    have : all[i]? = none := by
      have e := congrArg List.length hl
      simp at e
      simp; omega
    rw [this] at hi; cases hi
  | o :: l, j, S, hl, hj, h => by
    have hjo : all[j]? = some o := by
      have := congrArg (·[0]?) hl
      simpa using this
    have hl' : all.drop (j + 1) = l := by
      have := congrArg List.tail hl
      simpa using this
    simp only [Rest] at h
    by_cases e : j = i
    · subst e
      rw [hjo] at hi
      cases hi
      rw [hLi, if_neg (by simp), if_neg (show ¬ isQuiet E oi = true by simp [store_not_quiet (E := E) hs]), if_pos hs] at h
      obtain ⟨S', h1, hlate, h2⟩ := h
      refine ⟨S', h1, hlate, ?_⟩
      simp only [Rest, addL_same, if_true]
      exact rest_add l (j + 1) _ L (by omega) h2
    · by_cases hLj : L j = true
      · rw [if_pos hLj] at h
        obtain ⟨S', h1, hlate, h2⟩ := Rest.pickStore hi hLi hs hin hind l (j + 1) S hl' (by omega) h
        refine ⟨S', h1, fun k p t k1 => hlate k p t (by omega), ?_⟩
        simp only [Rest, addL_other L e, hLj, if_true]
        exact h2
      · rw [if_neg hLj] at h
        have hLj' : L j = false := by simpa using hLj
        obtain ⟨g1, gb, g2⟩ := hind j (by omega) hLj' o hjo
        have gq : isQuiet E o = true := by
          rcases g1 with g1 | ⟨t, g1, _⟩
          · exact pure_quiet g1
          · exact load_quiet g1
        rw [if_pos gq] at h
        obtain ⟨vj, bj, h1, h2⟩ := h
        have hb : bj = none := by
          rcases g1 with g1 | ⟨t, g1, _⟩
          · exact Res_pure_none g1 h1
          · exact Res_load_none g1 h1
        subst hb
        obtain ⟨S2, h3, hlate, h4⟩ := Rest.pickStore hi hLi hs hin hind l (j + 1) _ hl' (by omega) h2
        obtain ⟨S', h5, rfl⟩ := StoreRes.unput (S := S) (d := o.dst) (v := vj) h3 (fun t ht hm => g2.1 t ht (operand_read hm))
        have hlate2 : Late all bf L i (j + 1) oi S := by
          intro k p t k1 k2 k3 k4 k5 ty a x k6
          have k7 := hlate k p t k1 k2 k3 k4 k5 ty a x k6
          have hne : o.dst ≠ some t := by
            rcases (hind k (by omega) k2 p k4).1 with g | ⟨t', g, g'⟩
            · rw [load_not_pure k5] at g; cases g
            · rw [k5] at g
              cases g
              exact keptFrom_spec all 0 g' j o hjo (by omega) (by omega)
          rw [slot_add hne, opd_add (fun t' ht' e => g2.1 t' ht' (operand_read (by rw [k6, e]; simp [Op.operands])))] at k7
          exact k7
        refine ⟨S', h5, fun k p t k1 => hlate2 k p t (by omega), ?_⟩
        simp only [Rest, addL_other L e, hLj, if_false]
        rw [if_pos gq]
        refine ⟨vj, none, ?_, h4⟩
        rcases g1 with g1 | ⟨t, g1, _⟩
        · exact (Res_pure g1 h5.slots (by obtain ⟨_, _, _, _, _, _, rfl⟩ := h5; simp [St.setOb]) h5.kind).2 h1
        · exact (Res_apart g1 h5 (fun ty a x k6 => hlate2 j o t (by omega) hLj' gb hjo g1 ty a x k6)).2 h1
end
end Go.Vm

/- Vm, part 18: regions that draw their order are right. Own work. -/
set_option linter.unusedVariables false
set_option linter.unusedSimpArgs false
set_option linter.unusedSectionVars false
namespace Go.Vm
variable [MonotC]
open Go.RowKit
section
variable {P : Program} {E : Env} {c : Cx} {S : St} {μ : Nat → Value} {a : Act} {w : World} {o : Oper} {al n : Nat} {ds : List Nat} {ρ : Type} {r : ρ} {next : Act → World → Prop} {Q : Exit → Act → World → Prop}
/-! ### A quiet operation -/
theorem quietD (hE : EnvOK P E) {A0 : Nat → Prop} (hs : Slots w A0 S.ob μ S.slots a) (hO : Objs w A0 S.ob μ) (hf : Fresh S al) {v : PV} {b : Option OB} (h : evQuiet E o S al (fun v b => some (v, b)) = some (v, b))
    (hnext : ∀ val w', Keep None w w' → (match b with
      | none => VR w' A0 S.ob μ v val
      | some b => ∃ mv, (∀ x, blkOf mv = some x → w.heap.size ≤ x ∧ x < w'.heap.size) ∧ OR w' (addA A0 mv) (upd S.ob al b) (upd μ al mv) al ∧ VR w' (addA A0 mv) (upd S.ob al b) (upd μ al mv) v val) → next (a.put o.dst val) w') : o.wp P a w next Q := by
  have hpp : evP E o S al (fun v b => some (v, b)) = some (v, b) → o.wp P a w next Q := fun h => by
    obtain ⟨pv, nb, hk, val, w', hrun, hkeep, hv⟩ := evP_sound hE.1 hs hO (fun _ _ _ => hf) h
    simp only [Option.some.injEq, Prod.mk.injEq] at hk
    obtain ⟨rfl, rfl⟩ := hk
    exact wp_value hrun (hnext val w' hkeep hv)
  unfold evQuiet at h
  split at h
  · rename_i c0 hop
    split at h
    · rename_i g hc
      obtain ⟨as, h1, h⟩ := optK_some h
      obtain ⟨h2, h⟩ := cond_some h
      let A : Nat → Prop := fun x => A0 x ∧ ∀ o' ∈ shownIn (E.call g).modes (c0.args.toList.map (opd S)), blkOf (μ o') ≠ some x
      have hA : ∀ x, A x → A0 x := fun x hx => hx.1
      have hargs : TRs w A S.ob μ as (c0.args.toList.map a.eval) := showArgs_sound hO hA _ _ _ _ h1 (hs.trs _) (fun o' ho' x hx hAx => hAx.2 o' ho' hx)
      have hoid : PV.oidsL as = [] := List.isEmpty_iff.1 h2
      have hargs' : TRs w A (obs []) μ as (c0.args.toList.map a.eval) :=
        TRs.later (Keep.refl None w) (fun _ _ h => h) (fun _ h => h.elim) as (fun x hx => by rw [hoid] at hx; cases hx) _ hargs
      have hd : ∀ i, obs [] i = .dead := fun i => rfl
      have hlie : Objs w A (obs []) μ := ⟨fun i => by unfold OR; rw [hd]; trivial, fun i _ _ h _ _ _ => (by rw [hd] at h; cases h), fun x hx => (by obtain ⟨i, hx, _⟩ := hx; rw [hd] at hx; cases hx), fun x hx => hO.old x (hA x hx), fun p hp => ⟨(hO.lay p hp).1, fun a => (hO.lay p hp).2 (hA _ a)⟩⟩
      obtain ⟨hen, hcalls⟩ := hE.2 g as [] _ _ h
      have hcalls := hcalls w A μ _ hlie hargs'
      have hrun : (execOp a.eval o).run P w = .ok (.enter g (c0.args.map a.eval)) w := by
        obtain ⟨f0, hc, e⟩ : ∃ f0, c0.callee = .value f0 ∧ a.eval f0 = .func (.func g) #[] #[] := by
          unfold quietCallee at hc
          split at hc
          · rename_i f0 hf0
            split at hc
            · cases hc
              exact ⟨_, hf0, rfl⟩
            · rename_i t
              obtain ⟨g', _, hc⟩ := Option.bind_eq_some_iff.1 hc
              unfold quietTmp at hc
              split at hc
              · rename_i g2 caps hsl
                split at hc
                · obtain ⟨hb, hc⟩ := cond_some hc
                  cases hc
                  have hb := Nat.eq_of_beq_eq_true hb
                  subst hb
                  refine ⟨_, hf0, ?_⟩
                  have hv := hs.opd (.tmp t)
                  simp only [opd, hsl] at hv
                  obtain ⟨vs, e, ht⟩ := hv.func
                  simp only [TRs] at ht
                  have : vs = #[] := Array.toList_eq_nil_iff.1 ht
                  rw [e, this]
                · cases hc
              · cases hc
            · cases hc
          · cases hc
        simp only [execOp, hop, resolve, hc, e, Deferred.ofValue, invoke, Sem.run_bind, Sem.run_pure, Result.andThen]
        rw [← hen (c0.args.map a.eval) w]
        simp [invoke]
      simp only [Oper.wp, hrun, Oper.upon_enter]
      have e : (c0.args.toList.map a.eval).toArray = c0.args.map a.eval := by apply Array.ext'; simp
      rw [e] at hcalls
      refine hcalls.mono ?_
      rintro e w' ⟨val, res, objs', μ', rfl, hk, hp⟩
      obtain ⟨hsl, hk2⟩ := cond_some hk
      clear hk
      simp only [Bool.or_eq_true, Bool.and_eq_true] at hsl
      have hkeep : Keep None w w' := hp.keep.mono (fun x _ hx => by obtain ⟨i, hx, _⟩ := hx; rw [hd] at hx; cases hx)
      refine hnext val w' hkeep ?_
      have hA0 : (shownIn (E.call g).modes (c0.args.toList.map (opd S))).isEmpty = true → ∀ x, A0 x → A x := fun he x hx => ⟨hx, fun o' ho' => by rw [List.isEmpty_iff.1 he] at ho'; cases ho'⟩
      split at hk2
      · obtain ⟨hv, hk⟩ := cond_some hk2
        simp only [Option.some.injEq, Prod.mk.injEq] at hk
        obtain ⟨rfl, rfl⟩ := hk
        simp only
        have hv' : res.oids = [] := List.isEmpty_iff.1 hv
        have hr := hp.res
        rcases hsl with he | ⟨hs1, _⟩
        · exact VR.later (Keep.refl None w') (fun x _ hx => .inl (hA0 he x hx)) (fun _ h => h.elim) (fun x hx => by rw [hv'] at hx; cases hx) hr
        · exact VR.later (Keep.refl None w') (fun x _ hx => hx) (fun _ h => h.elim) (fun x hx => by rw [hv'] at hx; cases hx) (VR.flat (A' := A0) hs1 hr)
      · rename_i nb
        obtain ⟨hv, hk⟩ := cond_some hk2
        simp only [Option.some.injEq, Prod.mk.injEq] at hk
        obtain ⟨rfl, rfl⟩ := hk
        simp only [Bool.and_eq_true] at hv
        obtain ⟨hna, hv1, hv2⟩ := hv
        rw [boundL_iff] at hv1 hv2
        simp only
        have hob0 : obs [nb] 0 = nb := rfl
        have hmoved : ∀ x, x < 1 → Moved (obs [nb]) μ' (upd S.ob al (nb.ren fun _ => al)) (upd μ al (μ' 0)) x al := fun x hx => by
          have : x = 0 := by omega
          subst this
          unfold Moved
          rw [upd_same, upd_same, hob0]
          cases nb <;> simp [OB.ren]
        have hown : ∀ x, own (obs [nb]) μ' x ↔ blkOf (μ' 0) = some x := fun x => ⟨fun h => by
          obtain ⟨i, h1, h2⟩ := h
          have := obs_len h1
          have : i = 0 := by simpa using this
          subst this; exact h2, fun h => ⟨0, hna, h⟩⟩
        refine ⟨μ' 0, fun x hx => ⟨?_, hp.lie.old x (.inr ((hown x).2 hx))⟩, ?_, ?_⟩
        · rcases hp.mine x ((hown x).2 hx) with h | h
          · obtain ⟨i, h, _⟩ := h; rw [hd] at h; cases h
          · exact h
        · have h0 : OR w' (addA A0 (μ' 0)) (obs [nb]) μ' 0 := by
            rcases hsl with he | ⟨_, hs2⟩
            · exact (hp.lie.each 0).later (Keep.refl None w') (fun x _ hx => hx.imp (hA0 he x) (hown x).2) (fun _ h => h.elim) (.inl rfl) (fun _ => rfl) (fun x ha hx => ⟨fun h => h.elim, hp.lie.old x (.inr ((hown x).2 hx))⟩) (fun x _ => Later.refl _ _ x)
            · exact OR.flat (noSl_obs hs2 0) (hp.lie.each 0)
          exact OR.ren (fun _ => al) h0 (by rw [upd_same, hob0]) (by rw [upd_same]) (fun x hx => hmoved x (hv2 x (by rw [hob0] at hx; exact hx)))
        · have h0 : VR w' (addA A0 (μ' 0)) (obs [nb]) μ' res val := by
            rcases hsl with he | ⟨hs1, _⟩
            · exact VR.later (Keep.refl None w') (fun x _ hx => hx.imp (hA0 he x) (hown x).2) (fun _ h => h.elim) (fun x _ => Later.refl _ _ x) hp.res
            · exact VR.flat hs1 hp.res
          exact VR.ren (fun _ => al) (fun x hx => hmoved x (hv1 x hx)) h0
      · cases hk2
    · exact hpp h
  · exact hpp h

/-! ### What the checks say -/
theorem okOid_iff {base n j : Nat} {bs : List Nat} : ∀ {l : List Nat}, okOid base n j bs l = true ↔ ∀ x ∈ l, vis base n bs x = true ∨ x = base + j
  | [] => by simp [okOid]
  | x :: l => by
    simp only [okOid, Bool.and_eq_true, okOid_iff (l := l), List.mem_cons, forall_eq_or_imp, vis, Bool.or_eq_true]
    refine and_congr ?_ Iff.rfl
    have : (Nat.beq x (base + j) = true) ↔ x = base + j := by simp
    rw [this]
    constructor
    · rintro (h | h | h) <;> simp [h]
    · rintro ((h | h) | h) <;> simp [h]
theorem okPast_iff {lo hi : Nat} : ∀ {l : List Nat}, okPast lo hi l = true ↔ ∀ x ∈ l, x ≤ lo ∨ hi ≤ x
  | [] => by simp [okPast]
  | x :: l => by simp [okPast, okPast_iff (l := l)]
theorem okPastO_iff {lo hi : Nat} : ∀ {l : List OB}, okPastO lo hi l = true ↔ ∀ b ∈ l, ∀ x ∈ b.oids, x ≤ lo ∨ hi ≤ x
  | [] => by simp [okPastO]
  | b :: l => by simp [okPastO, okPastO_iff (l := l), okPast_iff]
theorem deadFrom_iff {S : St} : ∀ {k i : Nat}, deadFrom S i k = true ↔ ∀ x, i ≤ x → x < i + k → S.ob x = .dead
  | 0, i => by simp only [deadFrom, true_iff]; intro x h1 h2; omega
  | k + 1, i => by
    have hd : (!(S.ob i).alive) = true ↔ S.ob i = .dead := by cases S.ob i <;> simp [OB.alive]
    simp only [deadFrom, Bool.and_eq_true, deadFrom_iff (k := k) (i := i + 1), hd]
    constructor
    · rintro ⟨h1, h2⟩ x h3 h4
      by_cases e : x = i
      · subst e; exact h1
      · exact h2 x (by omega) (by omega)
    · intro h
      exact ⟨h i (by omega) (by omega), fun x h1 h2 => h x (by omega) (by omega)⟩
theorem mem_addN {x y : Nat} {r : List Nat} : x ∈ addN y r ↔ x = y ∨ x ∈ r := by
  unfold addN
  cases h : mem y r
  · simp
  · have := mem_iff.1 h
    simp only [cond_true]
    exact ⟨.inr, fun h => h.elim (fun e => e ▸ this) id⟩
theorem mem_adds {x : Nat} : ∀ {l r : List Nat}, x ∈ adds l r ↔ x ∈ l ∨ x ∈ r
  | [], r => by simp [adds]
  | y :: l, r => by
    simp only [adds, mem_adds (l := l), mem_addN, List.mem_cons]
    constructor
    · rintro (h | h | h)
      · exact .inl (.inr h)
      · exact .inl (.inl h)
      · exact .inr h
    · rintro ((h | h) | h)
      · exact .inr (.inl h)
      · exact .inl h
      · exact .inr (.inr h)
theorem mem_foldl {bf : List (List Nat)} {x : Nat} : ∀ {l : List Edge} {r0 : List Nat}, x ∈ l.foldl (fun r e => addN e.on (adds (bf.getD e.on []) r)) r0 ↔ x ∈ r0 ∨ ∃ e ∈ l, x = e.on ∨ x ∈ bf.getD e.on []
  | [], r0 => by simp
  | e :: l, r0 => by
    rw [List.foldl_cons, mem_foldl (l := l)]
    simp only [List.mem_cons, mem_addN, mem_adds, exists_eq_or_imp]
    constructor
    · rintro ((h | h | h) | h)
      · exact .inr (.inl (.inl h))
      · exact .inr (.inl (.inr h))
      · exact .inl h
      · exact .inr (.inr h)
    · rintro (h | (h | h) | h)
      · exact .inl (.inr (.inr h))
      · exact .inl (.inl h)
      · exact .inl (.inr (.inl h))
      · exact .inr h
theorem befores_prefix : ∀ (l : List Oper) (acc : List (List Nat)) (i : Nat), i < acc.length → (befores l acc)[i]? = acc[i]?
  | [], acc, i, h => rfl
  | o :: l, acc, i, h => by
    simp only [befores]
    rw [befores_prefix l _ i (by simp; omega), List.getElem?_append_left h]
theorem befores_spec : ∀ (l : List Oper) (acc : List (List Nat)) (i : Nat) (o : Oper), l[i]? = some o → ∀ x, x ∈ (befores l acc).getD (acc.length + i) [] ↔
    ∃ e ∈ o.after.toList, bindsAlways e = true ∧ (x = e.on ∨ (e.on < acc.length + i ∧ x ∈ (befores l acc).getD e.on []))
  | [], acc, i, o, h, x => by simp at h
  | p :: l, acc, 0, o, h, x => by
    simp only [List.getElem?_cons_zero, Option.some.injEq] at h
    subst h
    simp only [befores, Nat.add_zero]
    have e1 : ∀ k, k < acc.length + 1 → (befores l (acc ++ [(p.after.toList.filter bindsAlways).foldl (fun r e => addN e.on (adds (acc.getD e.on []) r)) []])).getD k [] = (acc ++ [(p.after.toList.filter bindsAlways).foldl (fun r e => addN e.on (adds (acc.getD e.on []) r)) []]).getD k [] := fun k hk => by
      simp only [List.getD]
      rw [befores_prefix l _ k (by simp; omega)]
    rw [e1 _ (by omega)]
    have e2 : (acc ++ [(p.after.toList.filter bindsAlways).foldl (fun r e => addN e.on (adds (acc.getD e.on []) r)) []]).getD acc.length [] = (p.after.toList.filter bindsAlways).foldl (fun r e => addN e.on (adds (acc.getD e.on []) r)) [] := by
      simp [List.getD]
    rw [e2, mem_foldl]
    simp only [List.not_mem_nil, false_or, List.mem_filter]
    constructor
    · rintro ⟨e, ⟨h1, h2⟩, h3⟩
      refine ⟨e, h1, h2, h3.imp id fun h4 => ?_⟩
      have hlt : e.on < acc.length := by
        rcases Nat.lt_or_ge e.on acc.length with h5 | h5
        · exact h5
        · have : acc[e.on]? = none := by simp; omega
          simp [List.getD, this] at h4
      refine ⟨hlt, ?_⟩
      rw [e1 _ (by omega)]
      simpa [List.getD, List.getElem?_append_left hlt] using h4
    · rintro ⟨e, h1, h2, h3⟩
      refine ⟨e, ⟨h1, h2⟩, h3.imp id fun ⟨hlt, h4⟩ => ?_⟩
      rw [e1 _ (by omega)] at h4
      simpa [List.getD, List.getElem?_append_left hlt] using h4
  | p :: l, acc, i + 1, o, h, x => by
    simp only [List.getElem?_cons_succ] at h
    simp only [befores]
    have := befores_spec l (acc ++ [(p.after.toList.filter bindsAlways).foldl (fun r e => addN e.on (adds (acc.getD e.on []) r)) []]) i o h x
    simp only [List.length_append, List.length_cons, List.length_nil] at this
    rw [show acc.length + (i + 1) = acc.length + (0 + 1) + i from by omega]
    exact this
theorem standsWith_spec {all : List Oper} {bf : List (List Nat)} {j : Nat} {o : Oper} : ∀ (l : List Oper) (i : Nat), standsWith E all bf j o i l = true → ∀ k p, l[k]? = some p → i + k < j →
    i + k ∈ bf.getD j [] ∨ ((((mayPair E o p || mayLate all (i + k) j o p) || (isQuiet E o && isBig E bf (i + k) p)) || (isBig E bf j o && isQuiet E p)) = true ∧ Indep all o p)
  | [], i, h, k, p, hk, hj => by simp at hk
  | q :: l, i, h, k, p, hk, hj => by
    simp only [standsWith] at h
    have hij : Nat.blt i j = true := by simp; omega
    simp only [hij, cond_true, Bool.and_eq_true] at h
    cases k with
    | zero =>
      simp only [List.getElem?_cons_zero, Option.some.injEq] at hk
      subst hk
      have h1 := h.1
      by_cases hm : mem i (bf.getD j []) = true
      · exact .inl (by rw [mem_iff] at hm; exact hm)
      · simp only [hm, cond_false, Bool.and_eq_true] at h1
        obtain ⟨⟨g1, g3⟩, g4⟩ := h1
        refine .inr ⟨g1, fun d hd => ?_, fun d hd => ?_, fun d hd hp => ?_⟩
        · rw [hd] at g3; simpa [mem_not] using g3
        · rw [hd] at g4; simp only [Bool.and_eq_true, Bool.not_eq_true', mem_not] at g4; exact g4.1
        · rw [hd, hp] at g4; simp at g4
    | succ k =>
      simp only [List.getElem?_cons_succ] at hk
      have := standsWith_spec l (i + 1) h.2 k p hk (by omega)
      rwa [show i + 1 + k = i + (k + 1) from by omega] at this
theorem drawOK_spec {all : List Oper} {bf : List (List Nat)} : ∀ (l : List Oper) (j : Nat), drawOK E all bf j l = true → ∀ k o, l[k]? = some o →
    (∀ x ∈ bf.getD (j + k) [], x < j + k) ∧ standsWith E all bf (j + k) o 0 all = true
  | [], j, h, k, o, hk => by simp at hk
  | p :: l, j, h, k, o, hk => by
    simp only [drawOK, Bool.and_eq_true, boundL_iff] at h
    cases k with
    | zero =>
      simp only [List.getElem?_cons_zero, Option.some.injEq] at hk
      subst hk
      exact h.1
    | succ k =>
      simp only [List.getElem?_cons_succ] at hk
      have := drawOK_spec l (j + 1) h.2 k o hk
      rwa [show j + 1 + k = j + (k + 1) from by omega] at this
end
end Go.Vm

/- Vm, part 19: regions are right. Own work. -/
set_option linter.unusedVariables false
set_option linter.unusedSimpArgs false
set_option linter.unusedSectionVars false
namespace Go.Vm
variable [MonotC]
open Go.RowKit
section
variable {P : Program} {E : Env} {c : Cx} {S : St} {μ : Nat → Value} {a : Act} {w : World} {o : Oper} {al n : Nat} {ds : List Nat} {ρ : Type} {r : ρ} {K : St → Option ρ} {next : Act → World → Prop} {Q : Exit → Act → World → Prop}
theorem oidsL_set {l : List PV} {t : Nat} {v : PV} {x : Nat} (h : x ∈ PV.oidsL (l.set t v)) : x ∈ PV.oidsL l ∨ x ∈ v.oids := by
  induction l generalizing t with
  | nil => simp [PV.oidsL] at h
  | cons u l ih =>
    cases t with
    | zero => simp only [List.set_cons_zero, PV.oidsL, List.mem_append] at h ⊢; rcases h with h | h; exact .inr h; exact .inl (.inr h)
    | succ t => simp only [List.set_cons_succ, PV.oidsL, List.mem_append] at h ⊢; rcases h with h | h; exact .inl (.inl h); exact (ih h).imp .inr id
structure Inv (hb : Bool) (base N : Nat) (L : Nat → Bool) (S : St) : Prop where
  len : base + N ≤ S.objs.length
  slots : ∀ x ∈ PV.oidsL S.slots, x < base ∨ base + N ≤ x ∨ ∃ k, x = base + k ∧ L k = true
  objs : ∀ b ∈ S.objs, ∀ x ∈ b.oids, x < base ∨ base + N ≤ x ∨ ∃ k, x = base + k ∧ L k = true
  dead : ∀ k, k < N → L k = false → S.ob (base + k) = .dead
  topS : ∀ x ∈ PV.oidsL S.slots, x < S.objs.length
  topO : ∀ b ∈ S.objs, ∀ x ∈ b.oids, x < S.objs.length
  noit : hb = true → ∀ k, k < N → isIter (S.ob (base + k)) = false
variable {hb : Bool}
theorem Inv.fresh {base N : Nat} {L : Nat → Bool} (h : Inv hb base N L S) {i : Nat} (hi : i < N) (hL : L i = false) : Fresh S (base + i) := by
  have no : ¬ (base + i < base ∨ base + N ≤ base + i ∨ ∃ k, base + i = base + k ∧ L k = true) := by
    rintro (h | h | ⟨k, h1, h2⟩)
    · omega
    · omega
    · have : k = i := by omega
      subst this; rw [hL] at h2; cases h2
  exact ⟨h.dead i hi hL, fun hx => no (h.slots _ hx), fun o hx => by obtain ⟨b, hb, hx⟩ := ob_oids_mem hx; exact no (h.objs b hb _ hx)⟩
theorem Res.inv {all : List Oper} {bf : List (List Nat)} {base i : Nat} {L : Nat → Bool} {v : PV} {b : Option OB} (h : Inv (hasBig E bf 0 all) base all.length L S) (hi : i < all.length) (hbs : ∀ k ∈ bf.getD i [], L k = true) (hr : Res E all bf base i o S v b) :
    Inv (hasBig E bf 0 all) base all.length (addL L i) (S.add (base + i) o.dst v b) := by
  have hlen : base + i < S.objs.length := by have := h.len; omega
  have old : ∀ x, (x < base ∨ base + all.length ≤ x ∨ ∃ k, x = base + k ∧ L k = true) → x < base ∨ base + all.length ≤ x ∨ ∃ k, x = base + k ∧ addL L i k = true := fun x hx =>
    hx.imp id (Or.imp id fun ⟨k, h1, h2⟩ => ⟨k, h1, by simp [addL, h2]⟩)
  have new : ∀ x ∈ v.oids ++ obOids b, x < base ∨ base + all.length ≤ x ∨ ∃ k, x = base + k ∧ addL L i k = true := by
    intro x hx
    obtain ⟨_, ⟨_, rfl, rfl⟩ | ⟨_, _, hok, _⟩⟩ := hr
    · simp [PV.oids, obOids] at hx
    · rw [okOid_iff] at hok
      rcases hok x hx with hv | rfl
      · rcases Nat.lt_or_ge x base with h1 | h1
        · exact .inl h1
        · rcases Nat.lt_or_ge x (base + all.length) with h2 | h2
          · have hk : x - base < all.length := by omega
            rw [show x = base + (x - base) from by omega, vis_in hk] at hv
            exact .inr (.inr ⟨x - base, by omega, by simp [addL, hbs _ hv]⟩)
          · exact .inr (.inl h2)
      · exact .inr (.inr ⟨i, rfl, addL_same L i⟩)
  have newT : ∀ x ∈ v.oids ++ obOids b, x < S.objs.length := by
    intro x hx
    obtain ⟨_, ⟨_, rfl, rfl⟩ | ⟨_, _, _, hbd, _⟩⟩ := hr
    · simp [PV.oids, obOids] at hx
    · rw [boundL_iff] at hbd
      exact hbd x hx
  have noi : hasBig E bf 0 all = true → noItO b = true := fun hh => by
    obtain ⟨_, ⟨_, rfl, rfl⟩ | ⟨_, _, _, _, hn⟩⟩ := hr
    · rfl
    · exact hn hh
  refine ⟨by rw [add_len hlen]; exact h.len, fun x hx => ?_, fun b' hb' x hx => ?_, fun k hk hLk => ?_, fun x hx => ?_, fun b' hb' x hx => ?_, fun hh k hk => ?_⟩
  rotate_left 3
  · rw [add_len hlen]
    rw [add_slots] at hx
    cases hd : o.dst with
    | none => rw [hd] at hx; exact h.topS x hx
    | some t =>
      rw [hd] at hx
      rcases oidsL_set hx with hx | hx
      · exact h.topS x hx
      · exact newT x (by simp [hx])
  · rw [add_len hlen]
    rw [add_objs hlen] at hb'
    cases b with
    | none => exact h.topO b' hb' x hx
    | some b =>
      rcases List.mem_or_eq_of_mem_set hb' with hb' | rfl
      · exact h.topO b' hb' x hx
      · exact newT x (by simp [obOids, hx])
  · have := h.noit hh k hk
    simp only [St.ob, List.getD, add_objs hlen] at this ⊢
    cases b with
    | none => exact this
    | some b =>
      simp only [List.getElem?_set]
      by_cases e : base + i = base + k
      · rw [if_pos e, if_pos (by omega)]
        simpa [noItO] using noi hh
      · rw [if_neg e]; exact this
  · rw [add_slots] at hx
    cases hd : o.dst with
    | none => rw [hd] at hx; exact old x (h.slots x hx)
    | some t =>
      rw [hd] at hx
      rcases oidsL_set hx with hx | hx
      · exact old x (h.slots x hx)
      · exact new x (by simp [hx])
  · rw [add_objs hlen] at hb'
    cases b with
    | none => exact old x (h.objs b' hb' x hx)
    | some b =>
      rcases List.mem_or_eq_of_mem_set hb' with hb' | rfl
      · exact old x (h.objs b' hb' x hx)
      · exact new x (by simp [obOids, hx])
  · have hne : k ≠ i := fun e => by subst e; rw [addL_same] at hLk; cases hLk
    rw [addL_other L hne] at hLk
    have := h.dead k hk hLk
    simp only [St.ob, List.getD, add_objs hlen] at this ⊢
    cases b with
    | none => exact this
    | some b => simp only [List.getElem?_set]; rw [if_neg (by omega)]; exact this
/-- a quiet operation that may be next -/
theorem quiet_pick (hE : EnvOK P E) {ops : Array Oper} {bf : List (List Nat)} {base i : Nat} {L : Nat → Bool} {v : PV} {b : Option OB} (hsr : SR c S μ a w) (h : Inv hb base ops.toList.length L S) (hi : i < ops.toList.length) (hL : L i = false)
    (hr : Res E ops.toList bf base i o S v b) (hd : ∀ t, o.dst = some t → t ∈ ds) (hn : n ≤ base)
    (hnext : ∀ μ' a' w', SR c (S.add (base + i) o.dst v b) μ' a' w' → Ag n ds S μ (S.add (base + i) o.dst v b) μ' → next a' w') :
    if Region.wanted o (yielded ops a.tmps) then o.wp P a w next Q ∨ (o.asks P a w ∧ LetsOut Q) else next (a.put o.dst Go.undef) w := by
  have hlen : base + i < S.objs.length := by have := h.len; omega
  have hfr := h.fresh hi hL
  rw [wanted_known hsr hr.1]
  obtain ⟨_, ⟨hw, rfl, rfl⟩ | ⟨hw, hq, hok, _⟩⟩ := hr
  · rw [hw]
    simp only [Bool.false_eq_true, if_false]
    obtain ⟨h1, h2⟩ := hsr.skip (o := o) (ds := ds) (n := n) hd (by omega)
    exact hnext μ _ _ h1 h2
  · rw [hw, if_pos rfl]
    refine .inl ?_
    rw [okOid_iff] at hok
    generalize hbs : seen E ops.toList bf i = bs at *
    have hob : ∀ x, (S.mask base ops.toList.length bs).ob x = S.ob x ∨ (S.mask base ops.toList.length bs).ob x = .dead := fun x => by
      rw [mask_ob]; cases vis base ops.toList.length bs x
      · exact .inr rfl
      · exact .inl rfl
    have hlat : ∀ x, Later S.ob μ (S.mask base ops.toList.length bs).ob μ x := fun x => by
      unfold Later
      rcases hob x with e | e
      · rw [e]; cases S.ob x <;> simp
      · rw [e]; trivial
    have hs1 : Slots w (av c S.ob μ) (S.mask base ops.toList.length bs).ob μ (S.mask base ops.toList.length bs).slots a :=
      hsr.slots.later (Keep.refl None w) (fun _ _ h => h) (fun _ h => h.elim) (fun x _ => hlat x)
    have hal : ∀ x, ((S.mask base ops.toList.length bs).ob x).alive = true → (S.ob x).alive = true := fun x hx => by
      rcases hob x with e | e
      · rw [← e]; exact hx
      · rw [e] at hx; cases hx
    have hO1 : Objs w (av c S.ob μ) (S.mask base ops.toList.length bs).ob μ := by
      refine ⟨fun x => ?_, fun x y z h1 h2 h3 h4 => hsr.objs.apart x y z (hal x h1) (hal y h2) h3 h4, fun x hx => ?_, hsr.objs.old, hsr.objs.lay⟩
      · exact (hsr.objs.each x).later (Keep.refl None w) (fun _ _ h => h) (fun _ h => h.elim) (hob x) (fun _ => rfl) (fun z h1 h2 => ⟨fun h => h.elim, own_lt hsr ⟨x, h1, h2⟩⟩) (fun z _ => hlat z)
      · obtain ⟨y, h1, h2⟩ := hx; exact .inr ⟨y, hal y h1, h2⟩
    have hf1 : Fresh (S.mask base ops.toList.length bs) (base + i) := by
      refine ⟨?_, hfr.slots, fun x hx => ?_⟩
      · rcases hob (base + i) with e | e
        · rw [e]; exact hfr.dead
        · exact e
      · rcases hob x with e | e
        · rw [e] at hx; exact hfr.objs x hx
        · rw [e] at hx; simp [OB.oids] at hx
    refine quietD hE hs1 hO1 hf1 hq (fun val w' hkeep hv => ?_)
    have hvis : ∀ x ∈ v.oids ++ obOids b, x ≠ base + i → (S.mask base ops.toList.length bs).ob x = S.ob x := fun x hx hne => by
      rcases hok x hx with h1 | h1
      · rw [mask_ob, h1]; rfl
      · exact absurd h1 hne
    have hadd : ∃ μ', SR c (S.add (base + i) o.dst v b) μ' (a.put o.dst val) w' ∧ (∀ n ds, (∀ t, o.dst = some t → t ∈ ds) → n ≤ base + i → n ≤ S.objs.length → Ag n ds S μ (S.add (base + i) o.dst v b) μ') := by
      refine hsr.add hkeep (fun _ _ => hfr) ?_
      cases b with
      | none =>
        have hdead : ∀ x ∈ v.oids, x = base + i → S.ob x = .dead := fun x _ e => by rw [e]; exact hfr.dead
        refine VR.later (Keep.refl None w') (fun _ _ h => h) (fun _ h => h.elim) (fun x hx => ?_) hv
        unfold Later
        by_cases e : x = base + i
        · rw [hdead x hx e]; trivial
        · rw [hvis x (by simp [hx]) e]; cases S.ob x <;> simp
      | some b =>
        obtain ⟨mv, h1, h2, h3⟩ := hv
        have hl2 : ∀ x ∈ v.oids ++ obOids (some b), Later (upd (S.mask base ops.toList.length bs).ob (base + i) b) (upd μ (base + i) mv) (upd S.ob (base + i) b) (upd μ (base + i) mv) x := fun x hx => by
          unfold Later
          by_cases e : x = base + i
          · subst e; rw [upd_same, upd_same]; cases b <;> simp
          · rw [upd_other _ _ e, upd_other _ _ e, hvis x hx e]; cases S.ob x <;> simp
        refine ⟨mv, h1, ?_, VR.later (Keep.refl None w') (fun _ _ h => h) (fun _ h => h.elim) (fun x hx => hl2 x (by simp [hx])) h3⟩
        exact h2.later (Keep.refl None w') (fun _ _ h => h) (fun _ h => h.elim) (.inl (by rw [upd_same, upd_same])) (fun _ => rfl) (fun z _ hz => ⟨fun h => h.elim, by rw [upd_same] at hz; exact (h1 z hz).2⟩) (fun x hx => hl2 x (by rw [upd_same] at hx; simp [obOids, hx]))
    obtain ⟨μ', h1, h2⟩ := hadd
    exact hnext μ' _ _ h1 (h2 n ds hd (by omega) (by omega))

theorem oidsL_get {l : List PV} {i : Nat} {u : PV} {x : Nat} (h : l[i]? = some u) (hx : x ∈ u.oids) : x ∈ PV.oidsL l := by
  induction l generalizing i with
  | nil => simp at h
  | cons v l ih =>
    simp only [PV.oidsL, List.mem_append]
    cases i with
    | zero => simp at h; subst h; exact .inl hx
    | succ i => exact .inr (ih (by simpa using h))
theorem ofConst_oids (v : Value) : (ofConst v).oids = [] := by
  unfold ofConst
  split <;> try rfl
  rename_i s
  cases Nat.ble s.size 9223372036854775807 <;> rfl
theorem setPath_oids : ∀ (p : List Nat) (v y : PV) (x : Nat), x ∈ (setPath v p y).oids → x ∈ v.oids ∨ x ∈ y.oids
  | [], v, y, x, h => by
    have : setPath v [] y = y := by cases v <;> rfl
    rw [this] at h
    exact .inr h
  | i :: p, v, y, x, h => by
    cases v with
    | agg l =>
      simp only [setPath, PV.oids] at h
      rcases oidsL_set h with h | h
      · exact .inl h
      · rcases setPath_oids p _ y x h with h | h
        · left
          simp only [PV.oids]
          rw [List.getD] at h
          cases hl : l[i]? with
          | none => rw [hl] at h; simp [PV.oids] at h
          | some u =>
            rw [hl] at h
            exact oidsL_get hl h
        · exact .inr h
    | _ => exact .inl h
theorem storeV_oids {t : Nat} {pa px : PV} {p : Nat × OB} (h : storeV E t pa px S.ob = some p) : ∀ x ∈ p.2.oids, x ∈ (S.ob p.1).oids ∨ x ∈ px.oids := by
  unfold storeV at h
  split at h
  · split at h
    · rename_i o q
      split at h
      · rename_i e v hob
        obtain ⟨_, h⟩ := cond_some h
        cases h
        intro x hx
        simp only [OB.oids] at hx
        simp only [hob, OB.oids]
        exact setPath_oids q v px x hx
      · cases h
    · rename_i o i q
      split at h
      · rename_i T xs hob
        obtain ⟨_, h⟩ := cond_some h
        obtain ⟨y, _, h⟩ := optK_some h
        obtain ⟨_, h⟩ := cond_some h
        cases h
        intro x hx
        simp only [OB.oids, List.not_mem_nil] at hx
      · cases h
    · cases h
  · cases h
theorem storeV_noit {t : Nat} {pa px : PV} {p : Nat × OB} (h : storeV E t pa px S.ob = some p) : isIter p.2 = false := by
  unfold storeV at h
  split at h
  · split at h
    · split at h
      · obtain ⟨_, h⟩ := cond_some h
        cases h; rfl
      · cases h
    · split at h
      · obtain ⟨_, h⟩ := cond_some h
        obtain ⟨y, _, h⟩ := optK_some h
        obtain ⟨_, h⟩ := cond_some h
        cases h; rfl
      · cases h
    · cases h
  · cases h
theorem StoreRes.inv {base N : Nat} {L : Nat → Bool} {i : Nat} {S' : St} (h : StoreRes E o S S') (hinv : Inv hb base N L S) : Inv hb base N (addL L i) S' := by
  obtain ⟨t, a, x, p, hop, hp, rfl⟩ := h
  have hL : ∀ y, (y < base ∨ base + N ≤ y ∨ ∃ k, y = base + k ∧ L k = true) → (y < base ∨ base + N ≤ y ∨ ∃ k, y = base + k ∧ addL L i k = true) := fun y hy =>
    hy.imp id (Or.imp id fun ⟨k, h1, h2⟩ => ⟨k, h1, by simp [addL, h2]⟩)
  have hal := storeV_len hp
  have hpx : ∀ y ∈ (opd S x).oids, y ∈ PV.oidsL S.slots := fun y h => by
    cases x with
    | tmp t' =>
      simp only [opd] at h
      rw [List.getD] at h
      cases hl : S.slots[t']? with
      | none => rw [hl] at h; simp [PV.oids] at h
      | some u => rw [hl] at h; exact oidsL_get hl h
    | const v => rw [show opd S (.const v) = ofConst v from rfl, ofConst_oids] at h; cases h
    | func f => simp [opd, PV.oids, PV.oidsL] at h
    | global g => simp [opd, PV.oids] at h
  refine ⟨by simpa [St.setOb] using hinv.len, fun y hy => hL y (hinv.slots y hy), fun b hb y hy => ?_, fun k hk hLk => ?_, fun y hy => ?_, fun b hb y hy => ?_, fun hh k hk => ?_⟩
  rotate_left 2
  · simpa [St.setOb] using hinv.topS y hy
  · simp only [St.setOb, List.length_set] at hb ⊢
    rcases List.mem_or_eq_of_mem_set hb with hb | rfl
    · exact hinv.topO b hb y hy
    · rcases storeV_oids hp y hy with h | h
      · obtain ⟨b, hb, hx⟩ := ob_oids_mem h
        exact hinv.topO b hb y hx
      · exact hinv.topS y (hpx y h)
  · have h1 := hinv.noit hh k hk
    by_cases e : p.1 = base + k
    · have : (S.setOb p.1 p.2).ob (base + k) = p.2 := by
        simp only [St.ob, St.setOb, List.getD]
        rw [← e, List.getElem?_set_self (by have := hinv.len; omega)]
        rfl
      rw [this]
      exact storeV_noit hp
    · have : (S.setOb p.1 p.2).ob (base + k) = S.ob (base + k) := by
        simp only [St.ob, St.setOb, List.getD]
        rw [List.getElem?_set_ne e]
      rw [this]; exact h1
  · simp only [St.setOb] at hb
    rcases List.mem_or_eq_of_mem_set hb with hb | rfl
    · exact hL y (hinv.objs b hb y hy)
    · rcases storeV_oids hp y hy with h | h
      · obtain ⟨b, hb, hx⟩ := ob_oids_mem h
        exact hL y (hinv.objs b hb y hx)
      · refine hL y (hinv.slots y ?_)
        cases x with
        | tmp t' =>
          simp only [opd] at h
          rw [List.getD] at h
          cases hl : S.slots[t']? with
          | none => rw [hl] at h; simp [PV.oids] at h
          | some u => rw [hl] at h; exact oidsL_get hl h
        | const v => rw [show opd S (.const v) = ofConst v from rfl, ofConst_oids] at h; cases h
        | func f => simp [opd, PV.oids, PV.oidsL] at h
        | global g => simp [opd, PV.oids] at h
  · have hLk' : L k = false := by
      cases hLk2 : L k
      · rfl
      · simp [addL, hLk2] at hLk
    have hd := hinv.dead k hk hLk'
    have hne : p.1 ≠ base + k := fun e => by rw [e, hd] at hal; cases hal
    simp only [St.ob, St.setOb]
    rw [List.getD, List.getElem?_set_ne hne]
    exact hd
/-! ### A call that makes objects -/
theorem noItFrom_iff : ∀ {n i : Nat}, noItFrom S i n = true → ∀ k, k < n → isIter (S.ob (i + k)) = false
  | 0, i, _, k, hk => by omega
  | n + 1, i, h, k, hk => by
    simp only [noItFrom, Bool.and_eq_true, Bool.not_eq_true'] at h
    cases k with
    | zero => exact h.1
    | succ k => rw [show i + (k + 1) = i + 1 + k from by omega]; exact noItFrom_iff h.2 k (by omega)
theorem reach_mono {M : St} : ∀ (n : Nat) (l acc : List Nat) (x : Nat), x ∈ acc → x ∈ reach M n l acc
  | 0, l, acc, x, h => h
  | n + 1, [], acc, x, h => h
  | n + 1, o :: l, acc, x, h => by
    simp only [reach]
    cases mem o acc
    · exact reach_mono n _ _ x (by simp [h])
    · exact reach_mono n _ _ x h
theorem seesTop_of {bf : List (List Nat)} {bs : List Nat} {i : Nat} : ∀ (l : List Oper) (k : Nat), (∀ m p, l[m]? = some p → isBig E bf (k + m) p = true → (k + m < i → k + m ∈ bs) ∧ (i < k + m → i ∈ bf.getD (k + m) [])) → seesTop E bf bs i k l = true
  | [], k, h => rfl
  | q :: l, k, h => by
    simp only [seesTop, Bool.and_eq_true]
    refine ⟨?_, seesTop_of l (k + 1) (fun m p h1 h2 => by
      have := h (m + 1) p (by simpa using h1) (by rwa [show k + (m + 1) = k + 1 + m from by omega])
      rwa [show k + (m + 1) = k + 1 + m from by omega] at this)⟩
    cases hk : isBig E bf k q
    · rfl
    · have := h 0 q rfl (by simpa using hk)
      simp only [Nat.add_zero] at this
      rw [cond_true]
      rcases Nat.lt_trichotomy k i with h1 | h1 | h1
      · rw [show Nat.blt k i = true from by simpa using h1, cond_true, mem_iff]
        exact this.1 h1
      · subst h1
        rw [show Nat.blt k k = false from by rw [← Bool.not_eq_true]; simp, cond_false, Nat.beq_refl]
        rfl
      · rw [show Nat.blt k i = false from by rw [← Bool.not_eq_true]; simp; omega, cond_false, Bool.or_eq_true, mem_iff]
        exact .inr (this.2 h1)
theorem top_seen {all : List Oper} {bf : List (List Nat)} {i : Nat} (h : ∀ m p, all[m]? = some p → isBig E bf m p = true → (m < i → m ∈ bf.getD i []) ∧ (i < m → i ∈ bf.getD m [])) : mem all.length (seen E all bf i) = true := by
  unfold seen
  rw [seesTop_of all 0 (fun m p h1 h2 => by simpa using h m p h1 (by simpa using h2)), cond_true, mem_iff]
  simp
theorem hasBig_of {bf : List (List Nat)} : ∀ (l : List Oper) (j k : Nat) (p : Oper), l[k]? = some p → isBig E bf (j + k) p = true → hasBig E bf j l = true
  | [], j, k, p, h, _ => by simp at h
  | q :: l, j, k, p, h, hb => by
    simp only [hasBig, Bool.or_eq_true]
    cases k with
    | zero =>
      simp only [List.getElem?_cons_zero, Option.some.injEq] at h
      subst h
      exact .inl hb
    | succ k =>
      simp only [List.getElem?_cons_succ] at h
      exact .inr (hasBig_of l (j + 1) k p h (by rwa [show j + 1 + k = j + (k + 1) from by omega]))
theorem oidsO_mem {b : OB} {x : Nat} : ∀ {l : List OB}, b ∈ l → x ∈ b.oids → x ∈ oidsO l
  | [], h, _ => by cases h
  | c :: l, h, hx => by
    simp only [oidsO, List.mem_append]
    rcases List.mem_cons.1 h with rfl | h
    · exact .inl hx
    · exact .inr (oidsO_mem h hx)
theorem BigRes.inv {all : List Oper} {bf : List (List Nat)} {base j : Nat} {L : Nat → Bool} {v : PV} {new : List OB} (hinv : Inv hb base all.length L S) (hbs : ∀ k ∈ bf.getD j [], L k = true) (hr : BigRes E all bf base j o S v new) :
    Inv hb base all.length (addL L j) (S.app o.dst v new) := by
  obtain ⟨_, hok, hbd⟩ := hr
  rw [okOid_iff] at hok
  rw [boundL_iff] at hbd
  have old : ∀ x, (x < base ∨ base + all.length ≤ x ∨ ∃ k, x = base + k ∧ L k = true) → x < base ∨ base + all.length ≤ x ∨ ∃ k, x = base + k ∧ addL L j k = true := fun x hx =>
    hx.imp id (Or.imp id fun ⟨k, h1, h2⟩ => ⟨k, h1, by simp [addL, h2]⟩)
  have nw : ∀ x ∈ v.oids ++ oidsO new, x < base ∨ base + all.length ≤ x ∨ ∃ k, x = base + k ∧ addL L j k = true := fun x hx => by
    rcases hok x hx with hv | rfl
    · rcases Nat.lt_or_ge x base with h1 | h1
      · exact .inl h1
      · rcases Nat.lt_or_ge x (base + all.length) with h2 | h2
        · have hk : x - base < all.length := by omega
          rw [show x = base + (x - base) from by omega, vis_in hk] at hv
          exact .inr (.inr ⟨x - base, by omega, by simp [addL, hbs _ hv]⟩)
        · exact .inr (.inl h2)
    · exact .inr (.inr ⟨j, rfl, addL_same L j⟩)
  have hl : (S.app o.dst v new).objs.length = S.objs.length + new.length := by rw [app_objs, List.length_append]
  have hsl : ∀ x ∈ PV.oidsL (S.app o.dst v new).slots, x ∈ PV.oidsL S.slots ∨ x ∈ v.oids := fun x hx => by
    rw [app_slots] at hx
    cases hd : o.dst with
    | none => rw [hd] at hx; exact .inl hx
    | some t => rw [hd] at hx; exact oidsL_set hx
  have hlen := hinv.len
  have hobk : ∀ k, k < all.length → (S.app o.dst v new).ob (base + k) = S.ob (base + k) := fun k hk => by
    simp only [St.ob, app_objs, List.getD]
    rw [List.getElem?_append_left (by omega)]
  refine ⟨by omega, fun x hx => ?_, fun b hb x hx => ?_, fun k hk hLk => ?_, fun x hx => ?_, fun b hb x hx => ?_, fun hh k hk => ?_⟩
  · rcases hsl x hx with h | h
    · exact old x (hinv.slots x h)
    · exact nw x (by simp [h])
  · rw [app_objs] at hb
    rcases List.mem_append.1 hb with hb | hb
    · exact old x (hinv.objs b hb x hx)
    · exact nw x (by simp [oidsO_mem hb hx])
  · rw [hobk k hk]
    refine hinv.dead k hk ?_
    cases hLk2 : L k
    · rfl
    · simp [addL, hLk2] at hLk
  · rw [hl]
    rcases hsl x hx with h | h
    · have := hinv.topS x h; omega
    · exact hbd x (by simp [h])
  · rw [hl]
    rw [app_objs] at hb
    rcases List.mem_append.1 hb with hb | hb
    · have := hinv.topO b hb x hx; omega
    · exact hbd x (by simp [oidsO_mem hb hx])
  · rw [hobk k hk]; exact hinv.noit hh k hk
theorem reach_mask {M S : St} (hob : ∀ x, M.ob x = S.ob x ∨ M.ob x = .dead) : ∀ (n : Nat) (l acc : List Nat), (∀ x ∈ reach M n l acc, (M.ob x).alive = true) → reach S n l acc = reach M n l acc
  | 0, l, acc, _ => rfl
  | n + 1, [], acc, _ => rfl
  | n + 1, o :: l, acc, h => by
    simp only [reach] at h ⊢
    cases hm : mem o acc
    · rw [hm, cond_false] at h
      simp only [cond_false]
      have ho : (M.ob o).alive = true := h o (reach_mono _ _ _ _ (by simp))
      have e : M.ob o = S.ob o := by
        rcases hob o with e | e
        · exact e
        · rw [e] at ho; cases ho
      rw [← e]
      exact reach_mask hob n _ _ h
    · rw [hm, cond_true] at h
      simp only [cond_true]
      exact reach_mask hob n _ _ h
theorem big_evF {all : List Oper} {bf : List (List Nat)} {base j : Nat} {L : Nat → Bool} {v : PV} {new : List OB} (hbig : isBig E bf j o = true) (hh : hasBig E bf 0 all = true) (hinv : Inv (hasBig E bf 0 all) base all.length L S) (ht : mem all.length (seen E all bf j) = true)
    (hr : BigRes E all bf base j o S v new) : evF E o S al (fun S' => some S') = some (S.app o.dst v new) := by
  obtain ⟨c0, g, hop, hc, _, hq, hms, _⟩ := big_call hbig
  obtain ⟨f, hcal, _⟩ := bigFn_some hc
  obtain ⟨h, _, _⟩ := hr
  simp only [bigK, hop, hc] at h
  obtain ⟨M, hM⟩ : ∃ M, M = S.mask base all.length (seen E all bf j) := ⟨_, rfl⟩
  have hob : ∀ x, M.ob x = S.ob x ∨ M.ob x = .dead := fun x => by
    rw [hM, mask_ob]
    cases vis base all.length (seen E all bf j) x
    · exact .inr rfl
    · exact .inl rfl
  have hvs : c0.args.toList.map (opd M) = c0.args.toList.map (opd S) := by rw [hM]; exact List.map_congr_left (fun x _ => opd_mask _ _ _ x)
  have hfM : opd M f = opd S f := by rw [hM]; exact opd_mask _ _ _ f
  have hlen : M.objs.length = S.objs.length := by
    have : ∀ (l : List OB) (i : Nat), (maskFrom base all.length (seen E all bf j) i l).length = l.length := by
      intro l
      induction l with
      | nil => intro i; rfl
      | cons b l ih => intro i; simp only [maskFrom, List.length_cons, ih]
    rw [hM]
    exact this _ _
  rw [← hM] at h
  split at h
  rotate_left
  · cases h
  rename_i vs hba
  obtain ⟨caps, hfS, hvs2⟩ : ∃ caps, opd S f = .func g caps ∧ vs = c0.args.toList.map (opd S) ++ caps := by
    unfold bigArgs at hba
    simp only [hcal, hfM, hvs] at hba
    split at hba
    · rename_i g' caps hf
      obtain ⟨h1, h2⟩ := cond_some hba
      have e : g' = g := by simpa using h1
      subst e
      cases h2
      exact ⟨_, hf, rfl⟩
    · cases hba
  obtain ⟨acc, hacc⟩ : ∃ acc, acc = reach M 1000 (PV.oidsL vs) [] := ⟨_, rfl⟩
  rw [← hacc] at h
  obtain ⟨hg, h⟩ := cond_some h
  simp only [Bool.and_eq_true] at hg
  obtain ⟨hro, ⟨h1, h2, h3, h4, h5⟩, h6⟩ := hg
  have hal : ∀ x ∈ acc, (M.ob x).alive = true := allAlive_iff.1 h1
  have heq : ∀ x ∈ acc, M.ob x = S.ob x := fun x hx => by
    rcases hob x with e | e
    · exact e
    · have := hal x hx; rw [e] at this; cases this
  have hreach : reach S 1000 (PV.oidsL vs) [] = acc := by
    rw [hacc]
    exact reach_mask hob _ _ _ (fun x hx => hal x (by rw [hacc]; exact hx))
  have g1 : allAlive S acc = true := allAlive_iff.2 (fun x hx => by rw [← heq x hx]; exact hal x hx)
  have g3 : closed S acc = true := by
    have : ∀ l : List Nat, (∀ x ∈ l, x ∈ acc) → closed.go S acc l = closed.go M acc l := by
      intro l
      induction l with
      | nil => intro _; rfl
      | cons y l ih =>
        intro hl
        simp only [closed.go, heq y (hl y (by simp)), ih (fun x hx => hl x (by simp [hx]))]
    unfold closed at h3 ⊢
    rw [this acc (fun _ h => h)]
    exact h3
  have g6 : noIters acc S.objs = true := by
    rw [noIters_iff] at h6 ⊢
    intro m hm b hb m' K V s u c e
    have h6 := h6 m hm
    obtain ⟨x, hx, hbx⟩ := List.getElem_of_mem hb
    have hbo : S.ob x = b := by simp [St.ob, List.getD, List.getElem?_eq_getElem hx, hbx]
    have hvis : vis base all.length (seen E all bf j) x = true := by
      unfold vis
      rcases Nat.lt_or_ge x base with h | h
      · have : Nat.blt x base = true := by simpa using h
        rw [this]; rfl
      · rcases Nat.lt_or_ge x (base + all.length) with h' | h'
        · exfalso
          have := hinv.noit hh (x - base) (by omega)
          rw [show base + (x - base) = x from by omega, hbo, e] at this
          cases this
        · have : Nat.ble (base + all.length) x = true := by simpa using h'
          rw [this, cond_true, ht, Bool.or_true]
    have hMo : M.ob x = b := by rw [hM, mask_ob, hvis, cond_true, hbo]
    have hMm : b ∈ M.objs := by
      have : M.objs[x]? = some b := by
        have hx' : x < M.objs.length := by omega
        simp only [St.ob, List.getD, List.getElem?_eq_getElem hx', Option.getD_some] at hMo
        rw [List.getElem?_eq_getElem hx', hMo]
      exact List.mem_of_getElem? this
    exact h6 b hMm m' K V s u c e
  have hmap : acc.map (fun o => (M.ob o).ren (posOf · acc)) = acc.map (fun o => (S.ob o).ren (posOf · acc)) := List.map_congr_left (fun x hx => by rw [heq x hx])
  rw [hmap, hlen] at h
  rw [(E.call g).param] at h
  split at h
  rotate_left
  · cases h
  rename_i p hp
  cases h
  have huns : unseen S = true := by
    unfold unseen
    rw [Bool.and_eq_true, boundL_iff, boundO_iff]
    exact ⟨hinv.topS, hinv.topO⟩
  simp only [evF, hop, hcal, hfS, evCallG, hms, shownIn, List.isEmpty_nil, Bool.not_true, Bool.and_false, cond_false, evCall, prepArgs]
  rw [show c0.args.toList.map (opd S) ++ caps = vs from hvs2.symm]
  simp only [showArgs, optK, hreach, g1, h2, g3, h4, h5, g6, shownIn, List.isEmpty_nil, Bool.true_or, Bool.and_self, Bool.true_and, cond_true]
  rw [(E.call g).param, hp]
  simp only [huns, cond_true]
  have hnew : ∃ new, p.2 = acc.map (fun o => (S.ob o).ren (posOf · acc)) ++ new := by
    rcases Bool.or_eq_true _ _ ▸ hro with h | h
    · rw [List.isEmpty_iff.1 h]
      exact ⟨p.2, rfl⟩
    · exact (E.call g).roOK h _ _ p hp
  obtain ⟨new, hnew⟩ := hnew
  have hcl : ∀ o ∈ acc, ∀ x ∈ (S.ob o).oids, x ∈ acc := closed_iff.1 g3
  have hback : ∀ b : Nat → Nat, b = backOf acc S.objs.length → writeBack b acc p.2 S.objs = S.objs ++ (p.2.drop acc.length).map (OB.ren (backOf acc S.objs.length)) := by
    intro b hb
    subst hb
    rw [hnew, List.drop_left' (by simp)]
    have key : ∀ (l : List Nat), (∀ x ∈ l, x ∈ acc) → writeBack (backOf acc S.objs.length) l (l.map (fun o => (S.ob o).ren (posOf · acc)) ++ new) S.objs = S.objs ++ new.map (OB.ren (backOf acc S.objs.length)) := by
      intro l
      induction l with
      | nil => intro _; simp [writeBack]
      | cons y l ih =>
        intro hl
        simp only [List.map_cons, List.cons_append, writeBack]
        have e : ((S.ob y).ren (posOf · acc)).ren (backOf acc S.objs.length) = S.ob y := OB.ren_ren _ _ (fun x hx => by
          obtain ⟨k1, k2⟩ := posOf_mem (hcl y (hl y (by simp)) x hx)
          unfold backOf
          rw [show Nat.blt (posOf x acc) acc.length = true from by simpa using k1, cond_true]
          exact k2)
        rw [e]
        have hset : S.objs.set y (S.ob y) = S.objs := by
          apply List.ext_getElem?
          intro k
          rw [List.getElem?_set]
          by_cases e : y = k
          · subst e
            simp only [if_true, St.ob, List.getD]
            by_cases hlt : y < S.objs.length
            · rw [if_pos hlt, List.getElem?_eq_getElem hlt]; rfl
            · rw [if_neg hlt, List.getElem?_eq_none (by omega)]
          · rw [if_neg e]
        rw [hset]
        exact ih (fun x hx => hl x (by simp [hx]))
    exact key acc (fun _ h => h)
  rw [hback _ (by funext i; rfl)]
  have ht : cond (E.call g).ro S.touched (acc ++ S.touched) = S.touched := by
    rcases Bool.or_eq_true _ _ ▸ hro with h | h
    · rw [List.isEmpty_iff.1 h]; cases (E.call g).ro <;> rfl
    · rw [h]; rfl
  rw [ht]
  rfl
/-! ### All of them, in whatever order -/
theorem rest_skip {all : List Oper} {bf : List (List Nat)} {base : Nat} {L : Nat → Bool} : ∀ (m j : Nat) (S : St), (∀ k, j ≤ k → k < j + m → L k = true) → j + m ≤ all.length →
    (Rest E all bf base K r L j (all.drop j) S ↔ Rest E all bf base K r L (j + m) (all.drop (j + m)) S)
  | 0, j, S, _, _ => by simp
  | m + 1, j, S, hL, hj => by
    have hlt : j < all.length := by omega
    rw [List.drop_eq_getElem_cons hlt]
    simp only [Rest]
    rw [if_pos (hL j (Nat.le_refl _) (by omega)), rest_skip m (j + 1) S (fun k h1 h2 => hL k (by omega) (by omega)) (by omega)]
    rw [show j + 1 + m = j + (m + 1) from by omega]
theorem countP_lt {p q : Nat → Bool} : ∀ (l : List Nat), (∀ x, q x = true → p x = true) → ∀ x ∈ l, p x = true → q x = false → l.countP q < l.countP p
  | [], _, x, hx, _, _ => by cases hx
  | y :: l, h, x, hx, h1, h2 => by
    have hle : l.countP q ≤ l.countP p := List.countP_mono_left (fun z _ => h z)
    rcases List.mem_cons.1 hx with rfl | hx
    · rw [List.countP_cons_of_pos h1, List.countP_cons_of_neg (by simp [h2])]
      omega
    · have := countP_lt l h x hx h1 h2
      rw [List.countP_cons, List.countP_cons]
      have : (if q y = true then 1 else 0) ≤ (if p y = true then 1 else 0) := by
        by_cases hq : q y = true
        · rw [if_pos hq, if_pos (h y hq)]; exact Nat.le_refl _
        · rw [if_neg hq]; exact Nat.zero_le _
      omega
def ofArr (listed : Array Bool) : Nat → Bool := fun k => listed.getD k false
theorem ofArr_set {listed : Array Bool} {i : Nat} (hi : i < listed.size) : ofArr (listed.setIfInBounds i true) = addL (ofArr listed) i := by
  funext k
  by_cases e : k = i
  · subst e
    rw [addL_same]
    simp [ofArr, hi]
  · rw [addL_other _ e]
    exact getD_set_ne false (fun h => e h.symm)
theorem binds_any (e : Edge) : Region.binds .any e = bindsAlways e := by
  unfold Region.binds bindsAlways
  cases e.ground <;> rfl
theorem mayLate_some {all : List Oper} {i j : Nat} {p : Oper} (h : mayLate all i j o p = true) : ∃ t, loadAt p = some t ∧ isStore0 o = true ∧ keptFrom t i j 0 all = true := by
  unfold mayLate at h
  split at h
  · rename_i t ht
    simp only [Bool.and_eq_true] at h
    exact ⟨t, ht, h.1, h.2⟩
  · cases h
theorem late_store (hq : isQuiet E o = true) {all : List Oper} {i j : Nat} {p : Oper} : mayLate all i j o p = false := by
  rw [← Bool.not_eq_true]
  intro h
  obtain ⟨_, _, h, _⟩ := mayLate_some h
  rw [store_not_quiet h] at hq
  cases hq
theorem draw_any (hE : EnvC P E c) {ops : Array Oper} {bf : List (List Nat)} (hbf : bf = befores ops.toList []) {base : Nat} (hok : drawOK E ops.toList bf 0 ops.toList = true) (hd : ∀ o ∈ ops.toList, ∀ t, o.dst = some t → t ∈ ds) (hn : n ≤ base) {S0 : St} {μ0 : Nat → Value}
    (hQ : ∀ S' μ' a' w', K S' = some r → SR c S' μ' a' w' → Ag n ds S0 μ0 S' μ' → Q .normal a' w') :
    ∀ (fuel : Nat) (listed : Array Bool) (S : St) (μ : Nat → Value) (a : Act) (w : World), listed.size = ops.toList.length → (List.range ops.toList.length).countP (fun k => !ofArr listed k) ≤ fuel →
      (∀ k, k < ops.toList.length → ofArr listed k = true → ∀ x ∈ bf.getD k [], ofArr listed x = true) → Inv (hasBig E bf 0 ops.toList) base ops.toList.length (ofArr listed) S →
      Rest E ops.toList bf base K r (ofArr listed) 0 ops.toList S → SR c S μ a w → Ag n ds S0 μ0 S μ → wpAny P .any ops Q fuel listed a w := by
  have hspec := fun k o hk => drawOK_spec ops.toList 0 hok k o hk
  simp only [Nat.zero_add] at hspec
  have hbfs : ∀ i o, ops.toList[i]? = some o → ∀ x, x ∈ bf.getD i [] ↔ ∃ e ∈ o.after.toList, bindsAlways e = true ∧ (x = e.on ∨ (e.on < i ∧ x ∈ bf.getD e.on [])) := fun i o hi x => by
    have := befores_spec ops.toList [] i o hi x
    rw [← hbf] at this
    simpa using this
  have hfin : ∀ (listed : Array Bool) (S : St) (μ : Nat → Value) (a : Act) (w : World), (∀ k, k < ops.toList.length → ofArr listed k = true) → Rest E ops.toList bf base K r (ofArr listed) 0 ops.toList S → SR c S μ a w → Ag n ds S0 μ0 S μ → Q .normal a w := by
    intro listed S μ a w hall hr hsr hag
    have := (rest_skip (E := E) (K := K) (r := r) (bf := bf) (base := base) (all := ops.toList) (L := ofArr listed) ops.toList.length 0 S (fun k _ h => hall k (by omega)) (by omega)).1 (by simpa using hr)
    rw [Nat.zero_add, List.drop_length] at this
    simp only [Rest] at this
    exact hQ S μ a w this hsr hag
  intro fuel
  induction fuel with
  | zero =>
    intro listed S μ a w hsz hcnt hclo hinv hr hsr hag
    have hall : ∀ k, k < ops.toList.length → ofArr listed k = true := fun k hk => by
      have := Nat.le_zero.1 hcnt
      rw [List.countP_eq_zero] at this
      simpa using this k (List.mem_range.2 hk)
    refine ⟨?_, hfin listed S μ a w hall hr hsr hag⟩
    rw [List.eq_nil_iff_forall_not_mem]
    intro j hj
    rw [mem_ready] at hj
    obtain ⟨h1, o, ho, _⟩ := hj
    have hlt : j < ops.toList.length := by have := (Array.getElem?_eq_some_iff.1 ho).1; simpa using this
    have h2 := hall j hlt
    simp only [ofArr] at h2
    have : j < listed.size := by omega
    simp [this] at h1 h2
    rw [h1] at h2; cases h2
  | succ fuel ih =>
    intro listed S μ a w hsz hcnt hclo hinv hr hsr hag
    refine ⟨fun hnil => ?_, fun i hi => ?_⟩
    · have hall : ∀ k, k < ops.toList.length → ofArr listed k = true := by
        intro k
        induction k using Nat.strongRecOn with
        | _ k ihk =>
          intro hk
          by_cases hL : ofArr listed k = true
          · exact hL
          · exfalso
            have hko : ops.toList[k]? = some (ops.toList[k]'hk) := List.getElem?_eq_getElem hk
            have hm : k ∈ Region.ready .any ops listed := by
              rw [mem_ready]
              refine ⟨?_, _, by rw [← Array.getElem?_toList]; exact hko, fun e he hb => ?_⟩
              · have : k < listed.size := by omega
                simp only [ofArr] at hL
                simp [this] at hL ⊢
                exact hL
              · rw [binds_any] at hb
                have h1 : e.on ∈ bf.getD k [] := (hbfs k _ hko e.on).2 ⟨e, by simpa using he, hb, .inl rfl⟩
                have h2 := (hspec k _ hko).1 e.on h1
                exact ihk e.on h2 (by omega)
            rw [hnil] at hm; cases hm
      exact hfin listed S μ a w hall hr hsr hag
    · rw [mem_ready] at hi
      obtain ⟨h1, o, ho, hpre⟩ := hi
      have hlt : i < ops.toList.length := by have := (Array.getElem?_eq_some_iff.1 ho).1; simpa using this
      have hio : ops.toList[i]? = some o := by simpa using ho
      have hsz' : i < listed.size := by omega
      have hLi : ofArr listed i = false := by
        simp only [ofArr]
        simp [hsz'] at h1 ⊢
        exact h1
      have hbs : ∀ x ∈ bf.getD i [], ofArr listed x = true := fun x hx => by
        obtain ⟨e, he, hb, hx⟩ := (hbfs i o hio x).1 hx
        have hon : ofArr listed e.on = true := hpre e (by simpa using he) (by rw [binds_any]; exact hb)
        rcases hx with rfl | ⟨hlt2, hx⟩
        · exact hon
        · exact hclo e.on (by omega) hon x hx
      have hset := ofArr_set hsz'
      have hcnt' : (List.range ops.toList.length).countP (fun k => !ofArr (listed.setIfInBounds i true) k) ≤ fuel := by
        have := countP_lt (p := fun k => !ofArr listed k) (q := fun k => !ofArr (listed.setIfInBounds i true) k) (List.range ops.toList.length) (fun x hx => by
          rw [hset] at hx
          simp only [addL, Bool.not_eq_true', Bool.or_eq_false_iff] at hx ⊢
          exact hx.2) i (List.mem_range.2 hlt) (by simp [hLi]) (by rw [hset, addL_same]; rfl)
        omega
      have hclo' : ∀ k, k < ops.toList.length → ofArr (listed.setIfInBounds i true) k = true → ∀ x ∈ bf.getD k [], ofArr (listed.setIfInBounds i true) x = true := fun k hk hLk x hx => by
        rw [hset] at hLk ⊢
        have : ofArr listed x = true := by
          by_cases e : k = i
          · subst e; exact hbs x hx
          · rw [addL_other _ e] at hLk; exact hclo k hk hLk x hx
        simp [addL, this]
      have hdo := hd o (List.mem_of_getElem? hio)
      unfold Go.wpOp
      simp only [ho]
      by_cases hq : isQuiet E o = true
      · obtain ⟨v, b, h2, h3⟩ := Rest.pick hio hLi hq hlt ops.toList 0 S rfl (Nat.zero_le _) hinv.len (fun k hki hLk ok hok => by
          have hnk : k ∉ bf.getD i [] := fun hm => by rw [hbs k hm] at hLk; cases hLk
          rcases standsWith_spec ops.toList 0 (hspec i o hio).2 k ok hok (by omega) with h | ⟨g2, g3⟩
          · simp at h; exact absurd h (by simpa using hnk)
          · refine ⟨?_, g3, ?_, ?_⟩
            · rw [late_store hq, Bool.or_false] at g2
              simp only [mayPair, Bool.or_eq_true, Bool.and_eq_true] at g2
              rcases g2 with ((⟨_, g⟩ | ⟨g, g'⟩ | ⟨g, g'⟩) | ⟨_, g⟩) | ⟨g, _⟩
              · exact .inl (.inl g)
              · exact .inl (.inr ⟨g, g'⟩)
              · rw [store_not_quiet g] at hq; cases hq
              · exact .inr ⟨by simpa using g, top_hidden hok (by simpa using g) hki hlt hnk (hspec i o hio).1⟩
              · rw [big_not_quiet g] at hq; cases hq
            · rw [← Bool.not_eq_true, vis_in (by omega)]
              exact hnk
            · rw [← Bool.not_eq_true, vis_in hlt]
              intro h
              have := (hspec k ok hok).1 i h; omega) hr
        refine quiet_pick hE.ok hsr hinv hlt hLi h2 hdo hn (fun μ' a' w' h4 h5 => ?_)
        refine ih _ _ μ' a' w' (by simpa using hsz) hcnt' hclo' (by rw [hset]; exact h2.inv hinv hlt hbs) (by rw [hset]; exact h3) h4 (hag.trans h5 (fun _ h => h) (fun _ h => h))
      · by_cases hst : isStore0 o = true
        · obtain ⟨S', h2, _, h3⟩ := Rest.pickStore hio hLi hst hlt (fun k hki hLk ok hok => by
            have hnk : k ∉ bf.getD i [] := fun hm => by rw [hbs k hm] at hLk; cases hLk
            rcases standsWith_spec ops.toList 0 (hspec i o hio).2 k ok hok (by omega) with h | ⟨g2, g3⟩
            · simp at h; exact absurd h (by simpa using hnk)
            · refine ⟨?_, hnk, g3⟩
              rw [Bool.or_eq_true, Bool.or_eq_true, Bool.or_eq_true] at g2
              rcases g2 with ((g2 | g2) | g2) | g2
              rotate_left 2
              · rw [Bool.and_eq_true] at g2; exact absurd g2.1 hq
              · rw [Bool.and_eq_true] at g2; rw [big_not_store g2.1] at hst; cases hst
              · simp only [mayPair, Bool.or_eq_true, Bool.and_eq_true] at g2
                rcases g2 with ⟨g, _⟩ | ⟨g, _⟩ | ⟨_, g⟩
                · exact absurd g hq
                · rw [pure_not_store g] at hst; cases hst
                · exact .inl g
              · obtain ⟨t, ht, _, hk⟩ := mayLate_some g2
                exact .inr ⟨t, ht, by simpa using hk⟩) ops.toList 0 S rfl (Nat.zero_le _) hr
          obtain ⟨_, hdst, hgd⟩ := isStore0_some hst
          have hw : Region.wanted o (yielded ops a.tmps) = true := by
            unfold Region.wanted
            rw [hgd]
          rw [hw, if_pos rfl]
          have hl := hinv.len
          refine .inl (evF_sound (K := fun S' => some S') (r := S') (al := base + i) (n := n) (ds := ds) hE hsr (StoreRes.evF (E := E) (al := base + i) h2 hdst _) hdo (by omega) (by omega) (fun S2 μ' a' w' hk hsr' hag' => ?_))
          cases hk
          refine ih _ S' μ' a' w' (by simpa using hsz) hcnt' hclo' ?_ (by rw [hset]; exact h3) hsr' (hag.trans hag' (fun _ h => h) (fun _ h => h))
          rw [hset]
          exact h2.inv hinv
        by_cases hbig : isBig E bf i o = true
        · obtain ⟨v, new, h2, h3⟩ := Rest.pickBig hio hLi hbig hlt ops.toList 0 S rfl (Nat.zero_le _) hinv.len (fun k hki hLk ok hok => by
            have hnk : k ∉ bf.getD i [] := fun hm => by rw [hbs k hm] at hLk; cases hLk
            rcases standsWith_spec ops.toList 0 (hspec i o hio).2 k ok hok (by omega) with h | ⟨g2, g3⟩
            · simp at h; exact absurd h (by simpa using hnk)
            · have hml : mayLate ops.toList (0 + k) i o ok = false := by
                rw [← Bool.not_eq_true]
                intro h
                obtain ⟨_, _, h, _⟩ := mayLate_some h
                exact hst h
              rw [hml, Bool.or_false] at g2
              simp only [mayPair, Bool.or_eq_true, Bool.and_eq_true] at g2
              have gq : isQuiet E ok = true := by
                rcases g2 with ((⟨g, _⟩ | ⟨g, _⟩ | ⟨g, _⟩) | ⟨g, _⟩) | ⟨_, g⟩
                · exact absurd g hq
                · exact absurd (pure_quiet g) hq
                · exact absurd g hst
                · exact absurd g hq
                · exact g
              refine ⟨gq, top_hidden2 hio hbig hki (by omega) hnk (hspec k ok hok).1, g3, ?_⟩
              rw [← Bool.not_eq_true, vis_in (by omega)]
              exact hnk) hr
          obtain ⟨_, _, _, _, hgd, _⟩ := big_call hbig
          have hw : Region.wanted o (yielded ops a.tmps) = true := by
            unfold Region.wanted
            rw [hgd]
          rw [hw, if_pos rfl]
          have hl := hinv.len
          have hhb : hasBig E bf 0 ops.toList = true := hasBig_of ops.toList 0 i o hio (by simpa using hbig)
          have htop : mem ops.toList.length (seen E ops.toList bf i) = true := top_seen (fun m p hm hbm => by
            have hmq := big_not_quiet hbm
            have hms := big_not_store hbm
            refine ⟨fun h => ?_, fun h => ?_⟩
            · rcases standsWith_spec ops.toList 0 (hspec i o hio).2 m p hm (by omega) with h | ⟨g2, _⟩
              · simpa using h
              · exfalso
                have hml : mayLate ops.toList (0 + m) i o p = false := by
                  rw [← Bool.not_eq_true]
                  intro h
                  obtain ⟨_, _, h, _⟩ := mayLate_some h
                  exact hst h
                rw [hml, Bool.or_false] at g2
                simp only [mayPair, Bool.or_eq_true, Bool.and_eq_true] at g2
                rcases g2 with ((⟨g, _⟩ | ⟨g, _⟩ | ⟨g, _⟩) | ⟨g, _⟩) | ⟨_, g⟩
                · exact absurd g hq
                · exact absurd (pure_quiet g) hq
                · exact absurd g hst
                · exact absurd g hq
                · rw [hmq] at g; cases g
            · rcases standsWith_spec ops.toList 0 (hspec m p hm).2 i o hio (by omega) with h | ⟨g2, _⟩
              · simpa using h
              · exfalso
                have hml : mayLate ops.toList (0 + i) m p o = false := by
                  rw [← Bool.not_eq_true]
                  intro h
                  obtain ⟨_, _, h, _⟩ := mayLate_some h
                  rw [hms] at h; cases h
                rw [hml, Bool.or_false] at g2
                simp only [mayPair, Bool.or_eq_true, Bool.and_eq_true] at g2
                rcases g2 with ((⟨g, _⟩ | ⟨g, _⟩ | ⟨g, _⟩) | ⟨g, _⟩) | ⟨_, g⟩
                · rw [hmq] at g; cases g
                · rw [pure_quiet g] at hmq; cases hmq
                · rw [hms] at g; cases g
                · rw [hmq] at g; cases g
                · exact absurd g hq)
          have hev := big_evF (al := base + i) hbig hhb hinv htop h2
          refine .inl (evF_sound (K := fun S' => some S') (al := base + i) (n := n) (ds := ds) hE hsr hev hdo (by omega) (by omega) (fun S2 μ' a' w' hk hsr' hag' => ?_))
          cases hk
          refine ih _ _ μ' a' w' (by simpa using hsz) hcnt' hclo' (by rw [hset]; exact h2.inv hinv hbs) ?_ hsr' (hag.trans hag' (fun _ h => h) (fun _ h => h))
          rw [hset]
          exact h3
        have hall : ∀ k, k < i → ofArr listed k = true := fun k hki => by
          have hko : ops.toList[k]? = some (ops.toList[k]'(by omega)) := List.getElem?_eq_getElem (by omega)
          rcases standsWith_spec ops.toList 0 (hspec i o hio).2 k _ hko (by omega) with h | ⟨g2, _⟩
          · exact hbs k (by simpa using h)
          · have hml : mayLate ops.toList (0 + k) i o (ops.toList[k]'(by omega)) = false := by
              rw [← Bool.not_eq_true]
              intro h
              obtain ⟨_, _, h, _⟩ := mayLate_some h
              exact hst h
            rw [hml, Bool.or_false] at g2
            simp only [mayPair, Bool.or_eq_true, Bool.and_eq_true] at g2
            rcases g2 with ((⟨g, _⟩ | ⟨g, _⟩ | ⟨g, _⟩) | ⟨g, _⟩) | ⟨g, _⟩
            · exact absurd g hq
            · exact absurd (pure_quiet g) hq
            · exact absurd g hst
            · exact absurd g hq
            · exact absurd g hbig
        have hbefs : ∀ k, k < i → k ∈ bf.getD i [] := fun k hki => by
          have hko : ops.toList[k]? = some (ops.toList[k]'(by omega)) := List.getElem?_eq_getElem (by omega)
          rcases standsWith_spec ops.toList 0 (hspec i o hio).2 k _ hko (by omega) with h | ⟨g2, _⟩
          · simpa using h
          · exfalso
            have hml : mayLate ops.toList (0 + k) i o (ops.toList[k]'(by omega)) = false := by
              rw [← Bool.not_eq_true]
              intro h
              obtain ⟨_, _, h, _⟩ := mayLate_some h
              exact hst h
            rw [hml, Bool.or_false] at g2
            simp only [mayPair, Bool.or_eq_true, Bool.and_eq_true] at g2
            rcases g2 with ((⟨g, _⟩ | ⟨g, _⟩ | ⟨g, _⟩) | ⟨g, _⟩) | ⟨g, _⟩
            · exact absurd g hq
            · exact absurd (pure_quiet g) hq
            · exact absurd g hst
            · exact absurd g hq
            · exact absurd g hbig
        have hnone : ∀ k, i < k → ofArr listed k = false := fun k hki => by
          by_cases hkn : k < ops.toList.length
          · by_cases hLk : ofArr listed k = true
            · exfalso
              have hko : ops.toList[k]? = some (ops.toList[k]'hkn) := List.getElem?_eq_getElem hkn
              rcases standsWith_spec ops.toList 0 (hspec k _ hko).2 i o hio (by omega) with h | ⟨g2, _⟩
              · have := hclo k hkn hLk i (by simpa using h)
                rw [hLi] at this; cases this
              · have hml : mayLate ops.toList (0 + i) k (ops.toList[k]'hkn) o = false := by
                  rw [← Bool.not_eq_true]
                  intro h
                  obtain ⟨t, h, _, _⟩ := mayLate_some h
                  exact hq (load_quiet h)
                rw [hml, Bool.or_false] at g2
                simp only [mayPair, Bool.or_eq_true, Bool.and_eq_true] at g2
                rcases g2 with ((⟨_, g⟩ | ⟨_, g⟩ | ⟨_, g⟩) | ⟨_, g⟩) | ⟨_, g⟩
                · exact absurd g hq
                · exact absurd g hst
                · exact absurd (pure_quiet g) hq
                · exact absurd (by simpa using g) hbig
                · exact absurd g hq
            · simpa using hLk
          · simp only [ofArr]
            have : ¬ k < listed.size := by omega
            simp [this]
        have hr2 := (rest_skip (E := E) (K := K) (r := r) (bf := bf) (base := base) (all := ops.toList) (L := ofArr listed) i 0 S (fun k _ h => hall k (by omega)) (by omega)).1 (by simpa using hr)
        simp only [Nat.zero_add] at hr2
        have hdrop : ops.toList.drop i = o :: ops.toList.drop (i + 1) := by
          rw [List.drop_eq_getElem_cons hlt]
          have := List.getElem?_eq_getElem hlt
          rw [hio] at this
          cases this; rfl
        rw [hdrop] at hr2
        simp only [Rest] at hr2
        rw [hLi, if_neg (by simp), if_neg hq, if_neg hst, if_neg hbig] at hr2
        have hgo : ∀ S' μ' a' w', cond (pastOK S' base ops.toList.length i && cond (hasBig E bf 0 ops.toList) (noItFrom S' base ops.toList.length) true) (evDraw E ops.toList bf base (i + 1) (ops.toList.drop (i + 1)) S' K) none = some r → SR c S' μ' a' w' → Ag n ds S μ S' μ' → wpAny P .any ops Q fuel (listed.setIfInBounds i true) a' w' := by
          intro S' μ' a' w' hk hsr' hag'
          obtain ⟨hp, hk⟩ := cond_some hk
          simp only [pastOK, unseen, Bool.and_eq_true, okPast_iff, okPastO_iff, deadFrom_iff, boundL_iff, boundO_iff] at hp
          obtain ⟨⟨hp1, hp2, hp3, hp4, hp5, hp6⟩, hp7⟩ := hp
          have hokx : ∀ x, (x ≤ base + i ∨ base + ops.toList.length ≤ x) → x < base ∨ base + ops.toList.length ≤ x ∨ ∃ k, x = base + k ∧ addL (ofArr listed) i k = true := fun x hx => by
            rcases hx with hx | hx
            · rcases Nat.lt_or_ge x base with h1 | h1
              · exact .inl h1
              · refine .inr (.inr ⟨x - base, by omega, ?_⟩)
                by_cases e : x - base = i
                · rw [e, addL_same]
                · rw [addL_other _ e]; exact hall _ (by omega)
            · exact .inr (.inl hx)
          refine ih _ S' μ' a' w' (by simpa using hsz) hcnt' hclo' ?_ ?_ hsr' (hag.trans hag' (fun _ h => h) (fun _ h => h))
          · rw [hset]
            refine ⟨by simpa using hp1, fun x hx => hokx x (hp2 x hx), fun b hb x hx => hokx x (hp3 b hb x hx), fun k hk1 hk2 => ?_, hp5, hp6, fun hh k hk => ?_⟩
            rotate_left
            · rw [hh, cond_true] at hp7
              exact noItFrom_iff hp7 k hk
            have hki : i < k := by
              rcases Nat.lt_or_ge i k with h | h
              · exact h
              · exfalso
                by_cases e : k = i
                · subst e; rw [addL_same] at hk2; cases hk2
                · rw [addL_other _ e, hall k (by omega)] at hk2; cases hk2
            exact hp4 (base + k) (by omega) (by omega)
          · rw [hset]
            have h5 : Rest E ops.toList bf base K r (addL (ofArr listed) i) (i + 1) (ops.toList.drop (i + 1)) S' := rest_of_draw _ _ _ _ hk (fun k hk => by rw [addL_other _ (by omega)]; exact hnone k (by omega))
            have := (rest_skip (E := E) (K := K) (r := r) (bf := bf) (base := base) (all := ops.toList) (L := addL (ofArr listed) i) (i + 1) 0 S' (fun k _ h => by
              by_cases e : k = i
              · rw [e, addL_same]
              · rw [addL_other _ e]; exact hall k (by omega)) (by omega)).2 (by simpa using h5)
            simpa using this
        have hw := wanted_ok hsr hr2
        rw [hw]
        rcases wantK_some hr2 with ⟨hw1, h2⟩ | ⟨hw1, h2⟩
        · rw [hw1, if_pos rfl]
          have hl := hinv.len
          obtain ⟨_, h2⟩ := cond_some h2
          exact .inl (evF_sound hE hsr h2 hdo (by omega) (by omega) hgo)
        · rw [hw1]
          simp only [Bool.false_eq_true, if_false]
          have hl := hinv.len
          obtain ⟨g1, g2⟩ := hsr.skip (o := o) (ds := ds) (n := n) hdo (by omega)
          exact hgo _ μ _ _ h2 g1 g2

/-- a region -/
theorem region_sound (hE : EnvC P E c) (hm : P.follows .mixedOrders = true) {id : Nat} {ops : Array Oper} {draw : Bool} (h : evRegion E ops.toList draw S K = some r) (hsr : SR c S μ a w) (hd : ∀ o ∈ ops.toList, ∀ t, o.dst = some t → t ∈ ds) (hn : n ≤ S.objs.length)
    (hQ : ∀ S' μ' a' w', K S' = some r → SR c S' μ' a' w' → Ag n ds S μ S' μ' → Q .normal a' w') : (Code.region id ops draw).wp P Q a w := by
  unfold evRegion at h
  cases draw with
  | false =>
    simp only [cond_false] at h
    refine wp_region ?_
    have := evOps_sound (n := n) (ds := ds) (Q := Q) hE ops.toList 0 (by simp) h hsr hd hn hQ
    rw [List.range_eq_range']
    simpa using this
  | true =>
    simp only [cond_true] at h
    obtain ⟨hc, h⟩ := cond_some h
    simp only [Bool.and_eq_true] at hc
    obtain ⟨huns, hok⟩ := hc
    simp only [unseen, Bool.and_eq_true] at huns
    rw [boundL_iff, boundO_iff] at huns
    refine wp_region_any hm ?_
    have hS : ∃ S1 : St, S1 = { S with objs := S.objs ++ List.replicate ops.toList.length OB.dead } := ⟨_, rfl⟩
    obtain ⟨S1, hS1⟩ := hS
    rw [← hS1] at h
    have hob : S1.ob = S.ob := by
      subst hS1
      funext x
      simp only [St.ob, List.getD, List.getElem?_append]
      split
      · rfl
      · rename_i hge
        have : S.objs[x]? = none := by simp; omega
        rw [this, List.getElem?_replicate]
        split <;> rfl
    have hsl : S1.slots = S.slots := by subst hS1; rfl
    obtain ⟨μ', h1, h2⟩ := hsr.add (al := S.objs.length) (d := none) (pv := .any) (v := Go.undef) (nb := none) (Keep.drew None w) (fun _ h => by cases h) (.mk_any _)
    have h2 : Ag n ds S μ S μ' := h2 n ds (fun _ h => by cases h) hn hn
    have hsr1 : SR c S1 μ' a { w with drawn := w.drawn + 1 } := ⟨h1.defers, by rw [hsl, hob]; exact h1.slots, by rw [hob]; exact h1.objs, h1.keep, by rw [hob]; exact h1.mine⟩
    have hag : Ag n ds S μ S1 μ' := by
      refine ⟨by rw [hsl], fun t _ => by rw [hsl], by subst hS1; simp; omega, fun i _ => .inl (by rw [hob]), fun i hi => by subst hS1; exact hi, fun i hi => by rw [hob]; exact h2.later i hi⟩
    have hrep : ∀ k, ofArr (Array.replicate ops.size false) k = false := fun k => by
      simp only [ofArr]
      rw [Array.getD_eq_getD_getElem?, Array.getElem?_replicate]
      split <;> rfl
    refine draw_any (base := S.objs.length) (S0 := S) (μ0 := μ) (ds := ds) (n := n) hE rfl hok hd hn hQ ops.size _ S1 μ' a _ (by simp) ?_ ?_ ?_ ?_ hsr1 hag
    · have := List.countP_le_length (p := fun k => !ofArr (Array.replicate ops.size false) k) (l := List.range ops.toList.length)
      simpa using this
    · intro k _ hk
      rw [hrep] at hk; cases hk
    · have hlt : S.objs.length ≤ S1.objs.length := by subst hS1; simp
      have hdk : ∀ k, S1.ob (S.objs.length + k) = .dead := fun k => by
        rw [hob]
        have : S.objs[S.objs.length + k]? = none := by simp
        simp [St.ob, List.getD, this]
      refine ⟨by subst hS1; simp, fun x hx => .inl (huns.1 x (by rw [← hsl]; exact hx)), fun b hb x hx => ?_, fun k hk _ => ?_, fun x hx => ?_, fun b hb x hx => ?_, fun _ k _ => by rw [hdk k]; rfl⟩
      rotate_left 2
      · have := huns.1 x (by rw [← hsl]; exact hx); omega
      · subst hS1
        rcases List.mem_append.1 hb with hb | hb
        · have := huns.2 b hb x hx; omega
        · rw [List.eq_of_mem_replicate hb] at hx; simp [OB.oids] at hx
      · subst hS1
        rcases List.mem_append.1 hb with hb | hb
        · exact .inl (huns.2 b hb x hx)
        · rw [List.eq_of_mem_replicate hb] at hx; simp [OB.oids] at hx
      · rw [hob]
        have : S.objs[S.objs.length + k]? = none := by simp
        simp [St.ob, List.getD, this]
    · refine rest_of_draw _ _ _ _ h (fun k _ => hrep k)
end
end Go.Vm

/- Vm, part 20: where ways meet. Own work. -/
set_option linter.unusedVariables false
set_option linter.unusedSimpArgs false
set_option linter.unusedSectionVars false
namespace Go.Vm
variable [MonotC]
open Go.RowKit
section
variable {w : World} {A : Nat → Prop} {S : St} {μ : Nat → Value} {ρ : Type}
theorem Ty.fits_leaf {v v' : PV} (h1 : v.isAgg = false) (h2 : v'.isAgg = false) {T : Ty} (h : T.fits v = true) : T.fits v' = true := by
  cases T with
  | struct fs => cases v <;> first | (cases h1; done) | (simp [Ty.fits] at h)
  | _ => simp only [Ty.fits, h2]; rfl
theorem TD.fits_leaf {v v' : PV} (h1 : v.isAgg = false) (h2 : v'.isAgg = false) {d : TD} (h : d.fits v = true) : d.fits v' = true := by
  cases d with
  | data T => simp only [TD.fits] at h ⊢; exact Ty.fits_leaf h1 h2 h
  | cell k => simp only [TD.fits, h2]; rfl
  | map K V => simp only [TD.fits, h2]; rfl
  | agg ds => cases v <;> first | (cases h1; done) | (simp [TD.fits] at h)
def srcV (μ : Nat → Value) : Option Nat → Value
  | some o => μ o
  | none => .slice none 0 0
/-- These objects lie from a place on. -/
def Agrees (μ : Nat → Value) (base : Nat) (l : List (Option Nat)) (news : List OB) (ob2 : Nat → OB) (μ2 : Nat → Value) : Prop :=
  ∀ i, i < l.length → ob2 (base + i) = news.getD i .dead ∧ μ2 (base + i) = srcV μ (l.getD i none)
structure Laid (w : World) (A : Nat → Prop) (S : St) (μ : Nat → Value) (v : PV) (l : List (Option Nat)) (lay : List OB → PV × List OB) : Prop where
  alive : ∀ o ∈ used l, (S.ob o).alive = true
  lie : ∀ objs, ∃ news, (lay objs).2 = objs ++ news ∧ news.length = l.length ∧ ∀ ob2 μ2, Agrees μ objs.length l news ob2 μ2 →
    (∀ cs, CR w A S.ob μ v cs → CR w A ob2 μ2 (lay objs).1 cs) ∧ (∀ i, i < l.length → OR w A ob2 μ2 (objs.length + i))
  form : ∀ objs, (lay objs).1.isAny = false ∧ (lay objs).1.isAgg = v.isAgg ∧ (∀ T : Ty, T.fits v = true → T.fits (lay objs).1 = true) ∧ (∀ d : TD, d.fits v = true → d.fits (lay objs).1 = true)
structure Laids (w : World) (A : Nat → Prop) (S : St) (μ : Nat → Value) (vs : List PV) (l : List (Option Nat)) (lay : List OB → List PV × List OB) : Prop where
  alive : ∀ o ∈ used l, (S.ob o).alive = true
  lie : ∀ objs, ∃ news, (lay objs).2 = objs ++ news ∧ news.length = l.length ∧ ∀ ob2 μ2, Agrees μ objs.length l news ob2 μ2 →
    (∀ cs, CRs w A S.ob μ vs cs → CRs w A ob2 μ2 (lay objs).1 cs) ∧ (∀ i, i < l.length → OR w A ob2 μ2 (objs.length + i))
  form : ∀ objs, (∀ T : Tys, T.fits vs = true → T.fits (lay objs).1 = true) ∧ (∀ d : TDs, d.fits vs = true → d.fits (lay objs).1 = true)
theorem used_append (a b : List (Option Nat)) : used (a ++ b) = used a ++ used b := by
  induction a with
  | nil => rfl
  | cons x a ih => cases x <;> simp [used, ih]
theorem Agrees.left {base : Nat} {l m : List (Option Nat)} {n1 n2 : List OB} {ob2 : Nat → OB} {μ2 : Nat → Value} (h : Agrees μ base (l ++ m) (n1 ++ n2) ob2 μ2) (hl : n1.length = l.length) : Agrees μ base l n1 ob2 μ2 := fun i hi => by
  have := h i (by simp; omega)
  rw [List.getD, List.getD, List.getElem?_append_left (by omega), List.getElem?_append_left hi] at this
  exact this
theorem Agrees.right {base : Nat} {l m : List (Option Nat)} {n1 n2 : List OB} {ob2 : Nat → OB} {μ2 : Nat → Value} (h : Agrees μ base (l ++ m) (n1 ++ n2) ob2 μ2) (hl : n1.length = l.length) : Agrees μ (base + l.length) m n2 ob2 μ2 := fun i hi => by
  have := h (l.length + i) (by simp; omega)
  rw [List.getD, List.getD, List.getElem?_append_right (by omega), List.getElem?_append_right (by omega)] at this
  rw [Nat.add_assoc]
  rw [show l.length + i - n1.length = i from by omega, show l.length + i - l.length = i from by omega] at this
  exact this
theorem Laid.leaf {v u : PV} (hv : v.isAgg = false) (hu : u.isAgg = false) (hn : u.isAny = false) (h : ∀ ob2 μ2 cs, CR w A S.ob μ v cs → CR w A ob2 μ2 u cs) : Laid w A S μ v [] (fun l => (u, l)) :=
  ⟨fun o ho => (by cases ho), fun objs => ⟨[], by simp, rfl, fun ob2 μ2 _ => ⟨fun cs hc => h ob2 μ2 cs hc, fun i hi => (by cases hi)⟩⟩,
    fun objs => ⟨hn, by rw [hu, hv], fun T hT => Ty.fits_leaf hv hu hT, fun d hd => TD.fits_leaf hv hu hd⟩⟩
theorem one_leaf {v : PV} (h : v.isOne = true) : v.isAgg = false := by cases v <;> first | rfl | cases h
theorem one_len {v : PV} {A' : Nat → Prop} {ob' : Nat → OB} {μ' : Nat → Value} {cs : List Value} (h : v.isOne = true) (hc : CR w A' ob' μ' v cs) : cs.length = 1 := by
  cases v <;> first
    | (cases h; done)
    | (simp only [CR] at hc; exact hc)
    | (simp only [CR] at hc; rw [hc]; rfl)
    | (simp only [CR] at hc; obtain ⟨v, e, _⟩ := hc; rw [e]; rfl)
mutual
theorem Sh.sound (hO : Objs w A S.ob μ) : ∀ (s : Sh) (v : PV) (K : s.den → List (Option Nat) → Option ρ) (r : ρ), Sh.take S s v K = some r → ∃ y l, K y l = some r ∧ Laid w A S μ v l (Sh.lay s y)
  | .int k, v, K, r, h => by
    simp only [Sh.take] at h
    split at h
    · obtain ⟨hk, h2⟩ := cond_some h
      have e := of_decide_eq_true hk
      subst e
      exact ⟨_, _, h2, .leaf rfl rfl rfl (fun _ _ cs hc => by simpa only [CR] using hc)⟩
    · cases h
  | .bool, v, K, r, h => by
    simp only [Sh.take] at h
    split at h
    · exact ⟨_, _, h, .leaf rfl rfl rfl (fun _ _ cs hc => by simpa only [CR] using hc)⟩
    · cases h
  | .str, v, K, r, h => by
    simp only [Sh.take] at h
    split at h
    · exact ⟨_, _, h, .leaf rfl rfl rfl (fun _ _ cs hc => by simpa only [CR] using hc)⟩
    · cases h
  | .sl T, v, K, r, h => by
    simp only [Sh.take] at h
    split at h
    · obtain ⟨ys, h1, h⟩ := optK_some h
      obtain ⟨e, h1⟩ := castL_some h1
      subst e; subst h1
      exact ⟨_, _, h, .leaf rfl rfl rfl (fun _ _ cs hc => by simpa only [CR] using hc)⟩
    · refine ⟨_, _, h, .leaf rfl rfl rfl (fun _ _ cs hc => ?_)⟩
      simp only [CR] at hc ⊢
      subst hc
      simp only [DR]
      exact ⟨none, 0, rfl, ⟨Nat.le_refl _, Nat.zero_le _⟩, .inl rfl⟩
    · cases h
  | .row T, v, K, r, h => by
    simp only [Sh.take] at h
    split at h
    · rename_i o
      split at h
      · rename_i U xs hob
        obtain ⟨ys, h1, h⟩ := optK_some h
        obtain ⟨e, h1⟩ := castL_some h1
        subst e; subst h1
        refine ⟨_, _, h, ⟨fun x hx => by simp [used] at hx; subst hx; rw [hob]; rfl, fun objs => ⟨[.row U xs], rfl, rfl, fun ob2 μ2 hag => ?_⟩, fun objs => ⟨rfl, rfl, fun T hT => Ty.fits_leaf (v := .row o) rfl rfl hT, fun d hd => TD.fits_leaf (v := .row o) rfl rfl hd⟩⟩⟩
        obtain ⟨h2, h3⟩ := hag 0 (by simp)
        simp only [Nat.add_zero, List.getD_cons_zero, srcV] at h2 h3
        refine ⟨fun cs hc => ?_, fun i hi => ?_⟩
        · simp only [CR, Sh.lay] at hc ⊢
          obtain ⟨x, e1, e2, e3⟩ := hc
          simp only [hob] at e3
          exact ⟨x, e1, e2, by rw [h2]; simp only; rw [h3]; exact e3⟩
        · have : i = 0 := by simpa using hi
          subst this
          have hor := hO.each o
          unfold OR at hor ⊢
          rw [Nat.add_zero, h2, h3]
          simpa only [hob] using hor
      · cases h
    · refine ⟨_, _, h, ⟨fun x hx => by simp [used] at hx, fun objs => ⟨[.row T []], rfl, rfl, fun ob2 μ2 hag => ?_⟩, fun objs => ⟨rfl, rfl, fun T hT => Ty.fits_leaf (v := .nil) rfl rfl hT, fun d hd => TD.fits_leaf (v := .nil) rfl rfl hd⟩⟩⟩
      obtain ⟨h2, h3⟩ := hag 0 (by simp)
      simp only [Nat.add_zero, List.getD_cons_zero, srcV] at h2 h3
      refine ⟨fun cs hc => ?_, fun i hi => ?_⟩
      · simp only [CR, Sh.lay] at hc ⊢
        exact ⟨_, hc, rfl, by rw [h2]; simp only; rw [h3]; exact .inl rfl⟩
      · have : i = 0 := by simpa using hi
        subst this
        unfold OR
        rw [Nat.add_zero, h2]
        exact .inl ⟨rfl, h3⟩
    · cases h
  | .box d s, v, K, r, h => by
    simp only [Sh.take] at h
    split at h
    · rename_i o
      split at h
      · rename_i d' v hob
        obtain ⟨hd, h0⟩ := cond_some h
        have e := of_decide_eq_true hd
        subst e
        obtain ⟨y, l, h1, h2⟩ := Sh.sound hO s v _ _ h0
        refine ⟨y, _, h1, ⟨fun x hx => ?_, fun objs => ?_, fun objs => ⟨rfl, rfl, fun T hT => Ty.fits_leaf (v := .ptr o []) rfl rfl hT, fun d hd => TD.fits_leaf (v := .ptr o []) rfl rfl hd⟩⟩⟩
        · rw [used_append, List.mem_append] at hx
          rcases hx with hx | hx
          · exact h2.alive x hx
          · simp [used] at hx; subst hx; rw [hob]; rfl
        · obtain ⟨news, g1, g2, g3⟩ := h2.lie objs
          refine ⟨news ++ [.box d (Sh.lay s y objs).1], by simp only [Sh.lay, g1, List.append_assoc], by simp [g2], fun ob2 μ2 hag => ?_⟩
          obtain ⟨k1, k2⟩ := g3 ob2 μ2 (hag.left g2)
          obtain ⟨k3, k4⟩ := (hag.right g2) 0 (by simp)
          simp only [Nat.add_zero, List.getD_cons_zero, srcV] at k3 k4
          have hlen : (Sh.lay s y objs).2.length = objs.length + l.length := by rw [g1]; simp [g2]
          refine ⟨fun cs hc => ?_, fun i hi => ?_⟩
          · simp only [CR, Sh.lay, hlen] at hc ⊢
            obtain ⟨x, e1, e2, e3⟩ := hc
            simp only [hob] at e3
            exact ⟨x, e1, e2, by rw [k3]; simp only; rw [k4]; exact e3⟩
          · by_cases hil : i < l.length
            · exact k2 i hil
            · have : i = l.length := by simp at hi; omega
              subst this
              have hor := hO.each o
              unfold OR at hor ⊢
              rw [k3, k4]
              simp only [hob] at hor ⊢
              obtain ⟨b, cs, t, e1, e2, e3, e4, e5⟩ := hor
              exact ⟨b, cs, t, e1, e2, (h2.form objs).2.2.2 d e3, k1 _ e4, e5⟩
      · cases h
    · cases h
  | .agg s, v, K, r, h => by
    simp only [Sh.take] at h
    split at h
    · rename_i vs
      obtain ⟨y, l, h1, h2⟩ := Shs.sound hO s vs _ _ h
      refine ⟨y, l, h1, ⟨h2.alive, fun objs => ?_, fun objs => ⟨rfl, rfl, fun T hT => ?_, fun d hd => ?_⟩⟩⟩
      · obtain ⟨news, g1, g2, g3⟩ := h2.lie objs
        refine ⟨news, g1, g2, fun ob2 μ2 hag => ?_⟩
        obtain ⟨k1, k2⟩ := g3 ob2 μ2 hag
        exact ⟨fun cs hc => by simp only [CR, Sh.lay] at hc ⊢; exact k1 cs hc, k2⟩
      · cases T <;> simp only [Ty.fits, Sh.lay] at hT ⊢ <;> first | exact (h2.form objs).1 _ hT | simp [PV.isAgg] at hT
      · cases d with
        | data T => cases T <;> simp only [TD.fits, Ty.fits, Sh.lay] at hd ⊢ <;> first | exact (h2.form objs).1 _ hd | simp [PV.isAgg] at hd
        | cell k => simp only [TD.fits, Sh.lay] at hd ⊢; simp [PV.isAgg] at hd
        | map K V => simp only [TD.fits, Sh.lay] at hd ⊢; simp [PV.isAgg] at hd
        | agg ds => simp only [TD.fits, Sh.lay] at hd ⊢; exact (h2.form objs).2 _ hd
    · cases h
  | .map T U, v, K, r, h => by
    simp only [Sh.take] at h
    split at h
    · rename_i o
      split at h
      · rename_i T' U' c hob
        obtain ⟨ys, h1, h⟩ := optK_some h
        obtain ⟨e1, e2, h1⟩ := castM_some h1
        subst e1; subst e2; subst h1
        refine ⟨_, _, h, ⟨fun x hx => by simp [used] at hx; subst hx; rw [hob]; rfl, fun objs => ⟨[.map T' U' c], rfl, rfl, fun ob2 μ2 hag => ?_⟩, fun objs => ⟨rfl, rfl, fun T hT => Ty.fits_leaf (v := .mp o) rfl rfl hT, fun d hd => TD.fits_leaf (v := .mp o) rfl rfl hd⟩⟩⟩
        obtain ⟨h2, h3⟩ := hag 0 (by simp)
        simp only [Nat.add_zero, List.getD_cons_zero, srcV] at h2 h3
        refine ⟨fun cs hc => ?_, fun i hi => ?_⟩
        · simp only [CR, Sh.lay] at hc ⊢
          obtain ⟨x, e1, e2, e3⟩ := hc
          simp only [hob] at e3
          exact ⟨x, e1, e2, by rw [h2]; simp only; rw [h3]; exact e3⟩
        · have : i = 0 := by simpa using hi
          subst this
          have hor := hO.each o
          unfold OR at hor ⊢
          rw [Nat.add_zero, h2, h3]
          simpa only [hob] using hor
      · cases h
    · cases h
  | .bytes, v, K, r, h => by
    simp only [Sh.take] at h
    split at h
    · rename_i o
      split at h
      · rename_i s hob
        refine ⟨_, _, h, ⟨fun x hx => by simp [used] at hx; subst hx; rw [hob]; rfl, fun objs => ⟨[.bytes s], rfl, rfl, fun ob2 μ2 hag => ?_⟩, fun objs => ⟨rfl, rfl, fun T hT => Ty.fits_leaf (v := .row o) rfl rfl hT, fun d hd => TD.fits_leaf (v := .row o) rfl rfl hd⟩⟩⟩
        obtain ⟨h2, h3⟩ := hag 0 (by simp)
        simp only [Nat.add_zero, List.getD_cons_zero, srcV] at h2 h3
        refine ⟨fun cs hc => ?_, fun i hi => ?_⟩
        · simp only [CR, Sh.lay] at hc ⊢
          obtain ⟨x, e1, e2, e3⟩ := hc
          simp only [hob] at e3
          exact ⟨x, e1, e2, by rw [h2]; simp only; rw [h3]; exact e3⟩
        · have : i = 0 := by simpa using hi
          subst this
          have hor := hO.each o
          unfold OR at hor ⊢
          rw [Nat.add_zero, h2, h3]
          simpa only [hob] using hor
      · cases h
    · refine ⟨_, _, h, ⟨fun x hx => by simp [used] at hx, fun objs => ⟨[.bytes ByteArray.empty], rfl, rfl, fun ob2 μ2 hag => ?_⟩, fun objs => ⟨rfl, rfl, fun T hT => Ty.fits_leaf (v := .nil) rfl rfl hT, fun d hd => TD.fits_leaf (v := .nil) rfl rfl hd⟩⟩⟩
      obtain ⟨h2, h3⟩ := hag 0 (by simp)
      simp only [Nat.add_zero, List.getD_cons_zero, srcV] at h2 h3
      refine ⟨fun cs hc => ?_, fun i hi => ?_⟩
      · simp only [CR, Sh.lay] at hc ⊢
        exact ⟨_, hc, rfl, by rw [h2]; simp only; rw [h3]⟩
      · have : i = 0 := by simpa using hi
        subst this
        unfold OR
        rw [Nat.add_zero, h2]
        exact .inl ⟨rfl, h3⟩
    · cases h
theorem Shs.sound (hO : Objs w A S.ob μ) : ∀ (s : Shs) (vs : List PV) (K : s.den → List (Option Nat) → Option ρ) (r : ρ), Shs.take S s vs K = some r → ∃ y l, K y l = some r ∧ Laids w A S μ vs l (Shs.lay s y)
  | .nil, vs, K, r, h => by
    simp only [Shs.take] at h
    split at h
    · exact ⟨(), [], h, ⟨fun o ho => (by cases ho), fun objs => ⟨[], by simp [Shs.lay], rfl, fun ob2 μ2 _ => ⟨fun cs hc => by simpa only [CRs, Shs.lay] using hc, fun i hi => (by cases hi)⟩⟩, fun objs => ⟨fun T hT => hT, fun d hd => hd⟩⟩⟩
    · cases h
  | .cons s t, vs, K, r, h => by
    simp only [Shs.take] at h
    split at h
    · rename_i v vs
      obtain ⟨y, l, h1, h2⟩ := Sh.sound hO s v _ _ h
      obtain ⟨z, m, h3, h4⟩ := Shs.sound hO t vs _ _ h1
      refine ⟨(y, z), l ++ m, h3, ⟨fun o ho => ?_, fun objs => ?_, fun objs => ⟨fun T hT => ?_, fun d hd => ?_⟩⟩⟩
      · rw [used_append, List.mem_append] at ho
        exact ho.elim (h2.alive o) (h4.alive o)
      · obtain ⟨n1, g1, g2, g3⟩ := h2.lie objs
        obtain ⟨n2, g4, g5, g6⟩ := h4.lie (Sh.lay s y objs).2
        refine ⟨n1 ++ n2, by show (Shs.lay t z (Sh.lay s y objs).2).2 = _; rw [g4, g1, List.append_assoc], by simp [g2, g5], fun ob2 μ2 hag => ?_⟩
        have hlen : (Sh.lay s y objs).2.length = objs.length + l.length := by rw [g1]; simp [g2]
        obtain ⟨k1, k2⟩ := g3 ob2 μ2 (hag.left g2)
        obtain ⟨k3, k4⟩ := g6 ob2 μ2 (by rw [hlen]; exact hag.right g2)
        refine ⟨fun cs hc => ?_, fun i hi => ?_⟩
        · simp only [CRs, Shs.lay] at hc ⊢
          obtain ⟨c1, c2, e1, e2, e3⟩ := hc
          exact ⟨c1, c2, e1, k1 c1 e2, k3 c2 e3⟩
        · by_cases hil : i < l.length
          · exact k2 i hil
          · have := k4 (i - l.length) (by simp at hi; omega)
            rwa [hlen, show objs.length + l.length + (i - l.length) = objs.length + i from by omega] at this
      · cases T with
        | nil => simp [Tys.fits] at hT
        | cons t1 ts =>
          simp only [Tys.fits, Shs.lay, Bool.and_eq_true] at hT ⊢
          exact ⟨(h2.form objs).2.2.1 _ hT.1, (h4.form _).1 _ hT.2⟩
      · cases d with
        | nil => simp [TDs.fits] at hd
        | cons t1 ts =>
          simp only [TDs.fits, Shs.lay, Bool.and_eq_true] at hd ⊢
          exact ⟨(h2.form objs).2.2.2 _ hd.1, (h4.form _).2 _ hd.2⟩
    · cases h
  | .skip t, vs, K, r, h => by
    simp only [Shs.take] at h
    split at h
    · rename_i v vs
      obtain ⟨hone, h⟩ := cond_some h
      obtain ⟨y, l, h1, h2⟩ := Shs.sound hO t vs _ _ h
      refine ⟨y, l, h1, ⟨h2.alive, fun objs => ?_, fun objs => ⟨fun T hT => ?_, fun d hd => ?_⟩⟩⟩
      · obtain ⟨news, g1, g2, g3⟩ := h2.lie objs
        refine ⟨news, g1, g2, fun ob2 μ2 hag => ?_⟩
        obtain ⟨k1, k2⟩ := g3 ob2 μ2 hag
        refine ⟨fun cs hc => ?_, k2⟩
        simp only [CRs, Shs.lay] at hc ⊢
        obtain ⟨c1, c2, e1, e2, e3⟩ := hc
        exact ⟨c1, c2, e1, by simpa only [CR] using one_len hone e2, k1 c2 e3⟩
      · cases T with
        | nil => simp [Tys.fits] at hT
        | cons t1 ts =>
          simp only [Tys.fits, Shs.lay, Bool.and_eq_true] at hT ⊢
          exact ⟨Ty.fits_leaf (one_leaf hone) rfl hT.1, (h2.form _).1 _ hT.2⟩
      · cases d with
        | nil => simp [TDs.fits] at hd
        | cons t1 ts =>
          simp only [TDs.fits, Shs.lay, Bool.and_eq_true] at hd ⊢
          exact ⟨TD.fits_leaf (one_leaf hone) rfl hd.1, (h2.form _).2 _ hd.2⟩
    · cases h
end

theorem take_any (s : Sh) (K : s.den → List (Option Nat) → Option ρ) : Sh.take S s .any K = none := by cases s <;> rfl
theorem slots_sound {act : Act} (hO : Objs w A S.ob μ) (hsl : Slots w A S.ob μ S.slots act) : ∀ (l : List (Nat × Sh)) (K : (shsOf l).den → List (Option Nat) → Option ρ) (r : ρ), slotsTake S l K = some r →
    ∃ y a, K y a = some r ∧ (∀ o ∈ used a, (S.ob o).alive = true) ∧ ∀ vs objs, ∃ news, (laySlots l y vs objs).2 = objs ++ news ∧ news.length = a.length ∧ (laySlots l y vs objs).1.length = vs.length ∧
      (∀ t, t ∉ l.map (·.1) → (laySlots l y vs objs).1[t]? = vs[t]?) ∧ ∀ ob2 μ2, Agrees μ objs.length a news ob2 μ2 → (∀ i, i < a.length → OR w A ob2 μ2 (objs.length + i)) ∧
        ((∀ t v, vs[t]? = some v → VR w A ob2 μ2 v (act.tmps.getD t Go.undef)) → ∀ t v, (laySlots l y vs objs).1[t]? = some v → VR w A ob2 μ2 v (act.tmps.getD t Go.undef))
  | [], K, r, h => by
    simp only [slotsTake] at h
    exact ⟨(), [], h, fun o ho => (by cases ho), fun vs objs => ⟨[], by simp [laySlots], rfl, rfl, fun t _ => rfl, fun ob2 μ2 _ => ⟨fun i hi => (by cases hi), fun h => h⟩⟩⟩
  | p :: l, K, r, h => by
    simp only [slotsTake] at h
    obtain ⟨y, a, h1, h2⟩ := Sh.sound hO p.2 _ _ _ h
    obtain ⟨z, b, h3, h4, h5⟩ := slots_sound hO hsl l _ _ h1
    refine ⟨(y, z), a ++ b, h3, fun o ho => ?_, fun vs objs => ?_⟩
    · rw [used_append, List.mem_append] at ho
      exact ho.elim (h2.alive o) (h4 o)
    · obtain ⟨n1, g1, g2, g3⟩ := h2.lie objs
      obtain ⟨n2, g4, g5, g6, g7, g8⟩ := h5 (vs.set p.1 (Sh.lay p.2 y objs).1) (Sh.lay p.2 y objs).2
      have hlen : (Sh.lay p.2 y objs).2.length = objs.length + a.length := by rw [g1]; simp [g2]
      refine ⟨n1 ++ n2, by show (laySlots l z _ (Sh.lay p.2 y objs).2).2 = _; rw [g4, g1, List.append_assoc], by simp [g2, g5], by show (laySlots l z _ _).1.length = _; rw [g6]; simp, fun t ht => ?_, fun ob2 μ2 hag => ?_⟩
      · show (laySlots l z _ _).1[t]? = _
        simp only [List.map_cons, List.mem_cons, not_or] at ht
        rw [g7 t ht.2, List.getElem?_set]
        rw [if_neg (fun e => ht.1 e.symm)]
      · obtain ⟨k1, k2⟩ := g3 ob2 μ2 (hag.left g2)
        obtain ⟨k3, k4⟩ := g8 ob2 μ2 (by rw [hlen]; exact hag.right g2)
        refine ⟨fun i hi => ?_, fun hvs t v ht => k4 (fun t v ht => ?_) t v ht⟩
        · by_cases hil : i < a.length
          · exact k2 i hil
          · have := k3 (i - a.length) (by simp at hi; omega)
            rwa [hlen, show objs.length + a.length + (i - a.length) = objs.length + i from by omega] at this
        · rw [List.getElem?_set] at ht
          by_cases e : p.1 = t
          · subst e
            rw [if_pos rfl] at ht
            split at ht
            · simp only [Option.some.injEq] at ht
              subst ht
              have hv : VR w A S.ob μ (S.slots.getD p.1 .any) (act.tmps.getD p.1 Go.undef) := by
                cases hx : S.slots[p.1]? with
                | none => exact .inl (by simp [List.getD, hx, PV.isAny])
                | some u => simpa [List.getD, hx] using hsl.each p.1 u hx
              obtain ⟨f1, f2, _, _⟩ := h2.form objs
              rcases hv with hv | ⟨hv, hv2⟩
              · have : S.slots.getD p.1 .any = .any := by
                  cases hx : S.slots.getD p.1 .any <;> first | rfl | (rw [hx] at hv; cases hv)
                rw [this, take_any] at h
                cases h
              · exact .inr ⟨k1 _ hv, by rw [f2]; exact hv2⟩
            · cases ht
          · rw [if_neg e] at ht
            exact hvs t v ht
theorem ob_sound (hO : Objs w A S.ob μ) (s : Sh) (o : Nat) (K : s.den → List (Option Nat) → Option ρ) (r : ρ) (h : obTake S s (S.ob o) K = some r) : ∃ y a, K y a = some r ∧ (∀ x ∈ used a, (S.ob x).alive = true) ∧ (S.ob o).alive = true ∧
    ∀ objs : List OB, ∃ news cont, layOb s y o objs = (objs ++ news).set o cont ∧ news.length = a.length ∧ (∀ (ob2 : Nat → OB) (μ2 : Nat → Value), ob2 o = cont → μ2 o = μ o → Later S.ob μ ob2 μ2 o) ∧
      ∀ ob2 μ2, Agrees μ objs.length a news ob2 μ2 → ob2 o = cont → μ2 o = μ o → OR w A ob2 μ2 o ∧ ∀ i, i < a.length → OR w A ob2 μ2 (objs.length + i) := by
  cases s with
  | row T =>
    simp only [obTake] at h
    split at h
    · rename_i U xs hob
      obtain ⟨ys, h1, h⟩ := optK_some h
      obtain ⟨e, h1⟩ := castL_some h1
      subst e; subst h1
      refine ⟨_, _, h, fun x hx => (by cases hx), by rw [hob]; rfl, fun objs => ⟨[], .row U xs, by simp [layOb], rfl, fun ob2 μ2 e1 e2 => ?_, fun ob2 μ2 _ e1 e2 => ⟨?_, fun i hi => (by cases hi)⟩⟩⟩
      · unfold Later; rw [e1]; exact ⟨⟨xs, hob⟩, e2⟩
      · have hor := hO.each o
        unfold OR at hor ⊢
        rw [e1, e2]
        simpa only [hob] using hor
    · cases h
  | box d s =>
    simp only [obTake] at h
    split at h
    · rename_i d' v hob
      obtain ⟨hd, h0⟩ := cond_some h
      have e := of_decide_eq_true hd
      subst e
      obtain ⟨y, a, h1, h2⟩ := Sh.sound hO s v _ _ h0
      refine ⟨y, a, h1, h2.alive, by rw [hob]; rfl, fun objs => ?_⟩
      obtain ⟨news, g1, g2, g3⟩ := h2.lie objs
      refine ⟨news, .box d (Sh.lay s y objs).1, by show (Sh.lay s y objs).2.set o _ = _; rw [g1], g2, fun ob2 μ2 e1 e2 => ?_, fun ob2 μ2 hag e1 e2 => ?_⟩
      · unfold Later; rw [e1]; exact ⟨⟨v, hob⟩, e2⟩
      · obtain ⟨k1, k2⟩ := g3 ob2 μ2 hag
        refine ⟨?_, k2⟩
        have hor := hO.each o
        unfold OR at hor ⊢
        rw [e1, e2]
        simp only [hob] at hor ⊢
        obtain ⟨b, cs, t, m1, m2, m3, m4, m5⟩ := hor
        exact ⟨b, cs, t, m1, m2, (h2.form objs).2.2.2 d m3, k1 _ m4, m5⟩
    · cases h
  | map T U =>
    simp only [obTake] at h
    split at h
    · rename_i T' U' c hob
      obtain ⟨ys, h1, h⟩ := optK_some h
      obtain ⟨e1, e2, h1⟩ := castM_some h1
      subst e1; subst e2; subst h1
      refine ⟨_, _, h, fun x hx => (by cases hx), by rw [hob]; rfl, fun objs => ⟨[], .map T' U' c, by simp [layOb], rfl, fun ob2 μ2 e1 e2 => ?_, fun ob2 μ2 _ e1 e2 => ⟨?_, fun i hi => (by cases hi)⟩⟩⟩
      · unfold Later; rw [e1]; exact ⟨⟨c, hob⟩, e2⟩
      · have hor := hO.each o
        unfold OR at hor ⊢
        rw [e1, e2]
        simpa only [hob] using hor
    · cases h
  | _ => simp only [obTake, reduceCtorEq] at h
theorem objs_sound (hO : Objs w A S.ob μ) : ∀ (l : List (Nat × Sh)) (K : (shsOf l).den → List (Option Nat) → Option ρ) (r : ρ), objsTake S l K = some r → (l.map (·.1)).Nodup →
    ∃ z b, K z b = some r ∧ (∀ x ∈ used b, (S.ob x).alive = true) ∧ (∀ x ∈ l.map (·.1), (S.ob x).alive = true) ∧ ∀ objs, (∀ x ∈ l.map (·.1), x < objs.length) →
      (layObs l z objs).length = objs.length + b.length ∧ (∀ m, m < objs.length → m ∉ l.map (·.1) → (layObs l z objs)[m]? = objs[m]?) ∧
      ∀ (ob2 : Nat → OB) (μ2 : Nat → Value), (∀ m ∈ l.map (·.1), ob2 m = obs (layObs l z objs) m ∧ μ2 m = μ m) → (∀ i, i < b.length → ob2 (objs.length + i) = obs (layObs l z objs) (objs.length + i) ∧ μ2 (objs.length + i) = srcV μ (b.getD i none)) →
        (∀ m ∈ l.map (·.1), Later S.ob μ ob2 μ2 m ∧ OR w A ob2 μ2 m) ∧ (∀ i, i < b.length → OR w A ob2 μ2 (objs.length + i))
  | [], K, r, h, _ => by
    simp only [objsTake] at h
    exact ⟨(), [], h, fun x hx => (by cases hx), fun x hx => (by cases hx), fun objs _ => ⟨rfl, fun _ _ _ => rfl, fun ob2 μ2 _ _ => ⟨fun m hm => (by cases hm), fun i hi => (by cases hi)⟩⟩⟩
  | p :: l, K, r, h, hnd => by
    simp only [objsTake] at h
    simp only [List.map_cons, List.nodup_cons] at hnd
    obtain ⟨y, a, h1, h2, h3, h4⟩ := ob_sound hO p.2 p.1 _ _ h
    obtain ⟨z, b, h5, h6, h7, h8⟩ := objs_sound hO l _ _ h1 hnd.2
    refine ⟨(y, z), a ++ b, h5, fun x hx => ?_, fun x hx => ?_, fun objs hr => ?_⟩
    · rw [used_append, List.mem_append] at hx
      exact hx.elim (h2 x) (h6 x)
    · rcases List.mem_cons.1 hx with rfl | hx
      · exact h3
      · exact h7 x hx
    · obtain ⟨news, cont, g1, g2, g3, g4⟩ := h4 objs
      have hp : p.1 < objs.length := hr p.1 (by simp)
      have hlen : (layOb p.2 y p.1 objs).length = objs.length + a.length := by rw [g1]; simp [g2]
      obtain ⟨k1, k2, k3⟩ := h8 (layOb p.2 y p.1 objs) (fun x hx => by rw [hlen]; have := hr x (by simp at hx ⊢; exact .inr hx); omega)
      have hroot : ∀ m, m < objs.length + a.length → m ∉ l.map (·.1) → (layObs l z (layOb p.2 y p.1 objs))[m]? = ((objs ++ news).set p.1 cont)[m]? := fun m hm hn => by
        rw [k2 m (by rw [hlen]; exact hm) hn, g1]
      refine ⟨by show (layObs l z (layOb p.2 y p.1 objs)).length = _; rw [k1, hlen, List.length_append]; omega, fun m hm hn => ?_, fun ob2 μ2 e1 e2 => ?_⟩
      · show (layObs l z (layOb p.2 y p.1 objs))[m]? = _
        simp only [List.map_cons, List.mem_cons, not_or] at hn
        rw [hroot m (by omega) hn.2, List.getElem?_set, if_neg (fun e => hn.1 e.symm), List.getElem?_append_left hm]
      · have e1' : ∀ m ∈ (p :: l).map (·.1), ob2 m = obs (layObs l z (layOb p.2 y p.1 objs)) m ∧ μ2 m = μ m := e1
        have e2' : ∀ i, i < (a ++ b).length → ob2 (objs.length + i) = obs (layObs l z (layOb p.2 y p.1 objs)) (objs.length + i) ∧ μ2 (objs.length + i) = srcV μ ((a ++ b).getD i none) := e2
        obtain ⟨q1, q2⟩ := e1' p.1 (by simp)
        have hcont : ob2 p.1 = cont := by
          rw [q1]
          simp only [obs, List.getD, hroot p.1 (by omega) hnd.1, List.getElem?_set]
          rw [if_pos trivial, if_pos (by simp; omega)]; rfl
        have hag : Agrees μ objs.length a news ob2 μ2 := fun i hi => by
          obtain ⟨m1, m2⟩ := e2' i (by simp; omega)
          have hnm : objs.length + i ∉ l.map (·.1) := fun hm => by have := hr _ (List.mem_cons_of_mem _ hm); omega
          refine ⟨?_, ?_⟩
          · rw [m1]
            simp only [obs, List.getD, hroot _ (by omega) hnm, List.getElem?_set]
            rw [if_neg (by omega), List.getElem?_append_right (by omega)]
            rw [show objs.length + i - objs.length = i from by omega]
          · rw [m2, List.getD, List.getElem?_append_left hi]; rfl
        obtain ⟨f1, f2⟩ := g4 ob2 μ2 hag hcont q2
        obtain ⟨f3, f4⟩ := k3 ob2 μ2 (fun m hm => e1' m (List.mem_cons_of_mem _ hm)) (fun i hi => by
          rw [hlen]
          obtain ⟨m1, m2⟩ := e2' (a.length + i) (by simp; omega)
          rw [← Nat.add_assoc] at m1 m2
          refine ⟨m1, ?_⟩
          rw [m2, List.getD, List.getElem?_append_right (by omega)]
          rw [show a.length + i - a.length = i from by omega]; rfl)
        refine ⟨fun m hm => ?_, fun i hi => ?_⟩
        · rcases List.mem_cons.1 hm with rfl | hm
          · exact ⟨g3 ob2 μ2 hcont q2, f1⟩
          · exact f3 m hm
        · by_cases hil : i < a.length
          · exact f2 i hil
          · have := f4 (i - a.length) (by simp at hi; omega)
            rwa [hlen, show objs.length + a.length + (i - a.length) = objs.length + i from by omega] at this

theorem killAll_len : ∀ (g : List Nat) (l : List OB), (killAll g l).length = l.length
  | [], l => rfl
  | o :: g, l => by simp only [killAll]; rw [killAll_len g]; simp
theorem killAll_get : ∀ (g : List Nat) (l : List OB) (m : Nat), obs (killAll g l) m = if m ∈ g then .dead else obs l m
  | [], l, m => by simp [killAll]
  | o :: g, l, m => by
    simp only [killAll]
    rw [killAll_get g]
    by_cases h : m ∈ g
    · simp [h]
    · simp only [h, if_false, List.mem_cons, or_false]
      simp only [obs, List.getD, List.getElem?_set]
      by_cases e : m = o
      · subst e; simp; split <;> rfl
      · rw [if_neg (fun h => e h.symm), if_neg e]
theorem anyAll_len : ∀ (g : List Nat) (l : List PV), (anyAll g l).length = l.length
  | [], l => rfl
  | o :: g, l => by simp only [anyAll]; rw [anyAll_len g]; simp
theorem anyAll_get : ∀ (g : List Nat) (l : List PV) (t : Nat), (anyAll g l)[t]? = if t ∈ g then (l[t]?).map (fun _ => .any) else l[t]?
  | [], l, t => by simp [anyAll]
  | o :: g, l, t => by
    simp only [anyAll]
    rw [anyAll_get g]
    simp only [List.getElem?_set, List.mem_cons]
    by_cases h : t ∈ g
    · simp only [h, or_true, if_true]
      by_cases e : o = t
      · subst e
        rw [if_pos rfl]
        by_cases hl : o < l.length
        · rw [if_pos hl, List.getElem?_eq_getElem hl]; rfl
        · rw [if_neg hl]
          have : l[o]? = none := by simp; omega
          rw [this]
      · rw [if_neg e]
    · simp only [h, or_false, if_false]
      by_cases e : o = t
      · subst e
        rw [if_pos rfl, if_pos rfl]
        by_cases hl : o < l.length
        · rw [if_pos hl, List.getElem?_eq_getElem hl]; rfl
        · rw [if_neg hl]
          have : l[o]? = none := by simp; omega
          rw [this]; rfl
      · rw [if_neg e, if_neg (fun h => e h.symm)]
theorem within_iff {n0 : Nat} {l : List Nat} : ∀ {m : List Nat}, within n0 l m = true ↔ ∀ o ∈ m, n0 ≤ o ∨ o ∈ l
  | [] => by simp [within]
  | o :: m => by simp [within, within_iff (m := m), mem_iff]
theorem used_mem {l : List (Option Nat)} {o : Nat} : o ∈ used l ↔ some o ∈ l := by
  induction l with
  | nil => simp [used]
  | cons x l ih => cases x <;> simp [used, ih]
theorem used_inj : ∀ {l : List (Option Nat)} {i j o : Nat}, (used l).Nodup → l[i]? = some (some o) → l[j]? = some (some o) → i = j
  | [], i, j, o, _, h, _ => by simp at h
  | x :: l, 0, 0, o, _, _, _ => rfl
  | x :: l, 0, j + 1, o, hn, h1, h2 => by
    simp only [List.getElem?_cons_zero, Option.some.injEq] at h1
    simp only [List.getElem?_cons_succ] at h2
    subst h1
    simp only [used, List.nodup_cons] at hn
    exact absurd (used_mem.2 (List.mem_of_getElem? h2)) hn.1
  | x :: l, i + 1, 0, o, hn, h1, h2 => by
    simp only [List.getElem?_cons_zero, Option.some.injEq] at h2
    simp only [List.getElem?_cons_succ] at h1
    subst h2
    simp only [used, List.nodup_cons] at hn
    exact absurd (used_mem.2 (List.mem_of_getElem? h1)) hn.1
  | x :: l, i + 1, j + 1, o, hn, h1, h2 => by
    simp only [List.getElem?_cons_succ] at h1 h2
    have hn' : (used l).Nodup := by
      cases x with
      | none => exact hn
      | some y => simp only [used, List.nodup_cons] at hn; exact hn.2
    rw [used_inj hn' h1 h2]
/-- what holds where ways meet -/
theorem act_put_same (a : Act) (t : Nat) : a.put (some t) (a.tmps.getD t Go.undef) = a := by
  have h : a.tmps.setIfInBounds t (a.tmps.getD t Go.undef) = a.tmps := by
    apply Array.ext_getElem?
    intro i
    rw [Array.getElem?_setIfInBounds]
    split
    · rename_i e
      subst e
      split
      · rename_i h2
        simp [Array.getD, h2]
      · rename_i h2
        rw [Array.getElem?_eq_none (by omega)]
    · rfl
  simp only [Act.put, h]
theorem SR.settle1 {c : Cx} {a : Act} (h : SR c S μ a w) {t o : Nat} {lo hi : Int} {U : Ty} {xs : List U.den} (ht : S.slots.getD t .any = .sub o lo hi) (hob : S.ob o = .row U xs) (hf : S.fresh S.objs.length = true) :
    ∃ μ', SR c (((S.setOb o .dead).new S.objs.length (.row U ((xs.take hi.toNat).drop lo.toNat))).put (some t) (.row S.objs.length)) μ' a w ∧
      (∀ n ds, t ∈ ds → n ≤ S.objs.length → Ag n ds S μ (((S.setOb o .dead).new S.objs.length (.row U ((xs.take hi.toNat).drop lo.toNat))).put (some t) (.row S.objs.length)) μ') := by
  have hv : VR w (av c S.ob μ) S.ob μ (.sub o lo hi) (a.tmps.getD t Go.undef) := by
    cases hx : S.slots[t]? with
    | none => rw [List.getD, hx] at ht; cases ht
    | some u =>
      rw [List.getD, hx] at ht
      simp only [Option.getD_some] at ht
      subst ht
      exact h.slots.each t _ hx
  have hal : (S.ob o).alive = true := by rw [hob]; rfl
  obtain ⟨hra, _, hbk, _⟩ := ((h.objs.each o).rowAt hob).sub (hv.subv hob)
  obtain ⟨hd, g1, g2, g3, g4⟩ := rowAt_own hra hbk
  have hfr := fresh_iff hf
  have hlt : ∀ x, blkOf hd = some x → x < w.heap.size := fun x hx => h.objs.old x (.inr ⟨o, hal, g4 x hx⟩)
  obtain ⟨μ', h1, h2⟩ := h.consume (o := o) (al := S.objs.length) (nb := .row U ((xs.take hi.toNat).drop lo.toNat)) (mv := hd) (d := some t) (pv := .row S.objs.length) (v := a.tmps.getD t Go.undef) (w' := w) hal hfr rfl (Keep.refl _ w)
    (fun x hx => ⟨hlt x hx, .inl (g4 x hx)⟩)
    (by
      unfold OR
      rw [upd_same, upd_same]
      rcases g3 with ⟨e, e2⟩ | ⟨b, off, c', e, cs, tt, k1, k2, k3, k4, k5⟩
      · exact .inl ⟨by rw [e]; rfl, e2⟩
      · refine .inr ⟨b, off, c', cs, tt, e, k1, k2, k3, k4, fun i x hx => ?_⟩
        obtain ⟨cx, k6, k7⟩ := k5 i x hx
        refine ⟨cx, DR.keep (Keep.refl None w) (fun y _ hy => ?_) (fun _ h => h.elim) _ _ _ k6, k7⟩
        rcases hy with hy | hy
        · exact hy
        · exact .inr ⟨o, hal, g4 y hy⟩)
    (.inr ⟨by
      have hc : (a.tmps.getD t Go.undef).cells.toList = [a.tmps.getD t Go.undef] := by
        revert g2
        generalize a.tmps.getD t Go.undef = z
        intro g2
        cases z <;> first | rfl | (simp [Value.oneCell'] at g2)
      rw [hc]
      simp only [CR, upd_same]
      exact ⟨_, rfl, g2, g1⟩, by
        revert g2
        generalize a.tmps.getD t Go.undef = z
        intro g2
        cases z <;> first | rfl | (simp [Value.oneCell'] at g2)⟩)
  rw [act_put_same] at h1
  exact ⟨μ', h1, fun n ds ht hn => h2 n ds (fun t' e => by cases e; exact ht) hn hn⟩
theorem settle_sound {c : Cx} {a : Act} {ds : List Nat} {n : Nat} : ∀ (l : List (Nat × Sh)) {S : St} {μ : Nat → Value} {K : St → Option ρ} {r : ρ}, settle l S K = some r → SR c S μ a w → (∀ p ∈ l, p.1 ∈ ds) → n ≤ S.objs.length →
    ∃ S' μ', K S' = some r ∧ SR c S' μ' a w ∧ Ag n ds S μ S' μ'
  | [], S, μ, K, r, h, hsr, _, hn => ⟨S, μ, h, hsr, Ag.refl _ hn⟩
  | p :: l, S, μ, K, r, h, hsr, hd, hn => by
    simp only [settle] at h
    have hd' : ∀ p ∈ l, p.1 ∈ ds := fun q hq => hd q (List.mem_cons_of_mem _ hq)
    split at h
    · split at h
      · rename_i o lo hi hs
        split at h
        · rename_i U xs hob
          obtain ⟨hf, h⟩ := cond_some h
          obtain ⟨μ1, h1, h2⟩ := hsr.settle1 hs hob hf
          have ha := h2 n ds (hd p (List.mem_cons_self ..)) hn
          obtain ⟨S', μ', k1, k2, k3⟩ := settle_sound l h h1 hd' ha.olen
          exact ⟨S', μ', k1, k2, ha.trans k3 (fun _ h => h) (fun _ h => h)⟩
        · cases h
      · exact settle_sound l h hsr hd' hn
    · exact settle_sound l h hsr hd' hn
theorem join_sound0 {c : Cx} {s : SSh} {S0 S' : St} {ds : List Nat} {K : s.den → Option ρ} {r : ρ} {μ0 μ' : Nat → Value} {a : Act} (hfit : s.fit S0 ds = true) (h : s.take0 S0.objs.length S' K = some r) (hsr : SR c S' μ' a w)
    (hag : Ag S0.objs.length ds S0 μ0 S' μ') (ht0 : S0.touched = []) :
    ∃ y, K y = some r ∧ ∃ μ2, SR c (s.lay S0 ds y) μ2 a w ∧ Ag S0.objs.length ds S0 μ0 (s.lay S0 ds y) μ2 := by
  simp only [SSh.fit, Bool.and_eq_true, unseen] at hfit
  rw [boundL_iff, boundO_iff, within0_iff, boundL_iff, nodup_iff, disj_iff] at hfit
  obtain ⟨⟨hun1, hun2⟩, hpos, hroots, hrnd, hdis⟩ := hfit
  unfold SSh.take0 at h
  obtain ⟨z, b, h, hb1, hb2, hb3⟩ := objs_sound hsr.objs _ _ _ h hrnd
  obtain ⟨y, e, h, he1, he2⟩ := slots_sound hsr.objs hsr.slots _ _ _ h
  obtain ⟨hc, h⟩ := cond_some h
  simp only [Bool.and_eq_true] at hc
  rw [nodup_iff, within_iff, within_iff] at hc
  obtain ⟨hnd, hgone, htouch, hlen'⟩ := hc
  refine ⟨(y, z), h, ?_⟩
  obtain ⟨q1, q2, q3⟩ := hb3 (killAll s.gone S0.objs) (fun x hx => by rw [killAll_len]; exact hroots x hx)
  rw [killAll_len] at q1
  obtain ⟨news, p1, p2, p3, p4, p5⟩ := he2 (anyAll ds S0.slots) (layObs s.objs z (killAll s.gone S0.objs))
  generalize hS2 : s.lay S0 ds (y, z) = S2
  have hobjs : S2.objs = layObs s.objs z (killAll s.gone S0.objs) ++ news := by subst hS2; exact p1
  have hslots : S2.slots = (laySlots s.slots y (anyAll ds S0.slots) (layObs s.objs z (killAll s.gone S0.objs))).1 := by subst hS2; rfl
  have htou : S2.touched = s.gone ++ s.objs.map (·.1) := by subst hS2; rfl
  let μ2 : Nat → Value := fun m => if m < S0.objs.length then μ' m else srcV μ' ((b ++ e).getD (m - S0.objs.length) none)
  have hμ1 : ∀ m, m < S0.objs.length → μ2 m = μ' m := fun m hm => by show (if _ then _ else _) = _; rw [if_pos hm]
  have hμ2 : ∀ i, μ2 (S0.objs.length + i) = srcV μ' ((b ++ e).getD i none) := fun i => by
    show (if _ then _ else _) = _
    rw [if_neg (by omega), Nat.add_sub_cancel_left]
  have hob2 : ∀ m, S2.ob m = obs S2.objs m := fun m => rfl
  have hlen2 : S2.objs.length = S0.objs.length + (b.length + e.length) := by rw [hobjs]; simp [q1, p2]; omega
  have hobA : ∀ m, m < S0.objs.length + b.length → S2.ob m = obs (layObs s.objs z (killAll s.gone S0.objs)) m := fun m hm => by
    simp only [hob2, hobjs, obs, List.getD]
    rw [List.getElem?_append_left (by omega)]
  obtain ⟨hR, hB⟩ := q3 S2.ob μ2 (fun m hm => ⟨hobA m (by have := hroots m hm; omega), hμ1 m (hroots m hm)⟩) (fun i hi => by
    rw [killAll_len]
    refine ⟨hobA _ (by omega), ?_⟩
    rw [hμ2, List.getD, List.getElem?_append_left hi]; rfl)
  rw [killAll_len] at hB
  obtain ⟨hE, hSl⟩ := p5 S2.ob μ2 (fun i hi => by
    rw [q1, Nat.add_assoc, hμ2]
    refine ⟨?_, ?_⟩
    · simp only [hob2, hobjs, obs, List.getD]
      rw [List.getElem?_append_right (by omega), q1]
      rw [show S0.objs.length + (b.length + i) - (S0.objs.length + b.length) = i from by omega]
    · rw [List.getD, List.getElem?_append_right (by omega)]
      rw [show b.length + i - b.length = i from by omega]; rfl)
  rw [q1] at hE
  have hother : ∀ m, m < S0.objs.length → m ∉ s.objs.map (·.1) → S2.ob m = if m ∈ s.gone then .dead else S0.ob m := fun m hm hn => by
    rw [hobA m (by omega)]
    have := q2 m (by rw [killAll_len]; exact hm) hn
    have e1 : obs (layObs s.objs z (killAll s.gone S0.objs)) m = obs (killAll s.gone S0.objs) m := by simp only [obs, List.getD, this]
    rw [e1, killAll_get]; rfl
  have hsame : ∀ m, m < S0.objs.length → m ∉ s.objs.map (·.1) → m ∉ s.gone → S2.ob m = S'.ob m ∧ S'.ob m = S0.ob m := fun m hm hn hg => by
    have e1 : S'.ob m = S0.ob m := by
      rcases hag.ob m hm with h | h
      · exact h
      · rcases htouch m h with h1 | h1
        · omega
        · rw [List.mem_append] at h1; exact h1.elim (fun h => absurd h hg) (fun h => absurd h hn)
    rw [hother m hm hn, if_neg hg]
    exact ⟨e1.symm, e1⟩
  have hlat : ∀ m, m < S0.objs.length → Later S'.ob μ' S2.ob μ2 m := fun m hm => by
    by_cases hn : m ∈ s.objs.map (·.1)
    · exact (hR m hn).1
    · by_cases hg : m ∈ s.gone
      · unfold Later; rw [hother m hm hn, if_pos hg]; trivial
      · unfold Later
        rw [(hsame m hm hn hg).1, hμ1 m hm]
        cases S'.ob m <;> simp
  have horA : ∀ m, OR w (av c S'.ob μ') S2.ob μ2 m := fun m => by
    rcases Nat.lt_or_ge m S0.objs.length with hm | hm
    · by_cases hn : m ∈ s.objs.map (·.1)
      · exact (hR m hn).2
      · by_cases hg : m ∈ s.gone
        · unfold OR; rw [hother m hm hn, if_pos hg]; trivial
        · obtain ⟨e1, e2⟩ := hsame m hm hn hg
          refine (hsr.objs.each m).later (Keep.refl None w) (fun _ _ h => h) (fun _ h => h.elim) (.inl e1) (fun _ => hμ1 m hm) (fun x h1 h2 => ⟨fun h => h.elim, own_lt hsr ⟨m, h1, h2⟩⟩) (fun x hx => ?_)
          rw [e2] at hx
          obtain ⟨b', hb', hx⟩ := ob_oids_mem hx
          exact hlat x (hun2 b' hb' x hx)
    · rcases Nat.lt_or_ge m S2.objs.length with h1 | h1
      · rcases Nat.lt_or_ge m (S0.objs.length + b.length) with h2 | h2
        · have := hB (m - S0.objs.length) (by omega)
          rwa [show S0.objs.length + (m - S0.objs.length) = m from by omega] at this
        · have := hE (m - (S0.objs.length + b.length)) (by omega)
          rwa [show S0.objs.length + b.length + (m - (S0.objs.length + b.length)) = m from by omega] at this
      · unfold OR
        have : S2.objs[m]? = none := by simp; omega
        have : S2.ob m = .dead := by simp [St.ob, List.getD, this]
        rw [this]; trivial
  have hsrc : ∀ m x, (S2.ob m).alive = true → blkOf (μ2 m) = some x → ∃ o, (S'.ob o).alive = true ∧ blkOf (μ' o) = some x ∧ ((m < S0.objs.length ∧ o = m ∧ m ∉ s.gone) ∨ ∃ i, m = S0.objs.length + i ∧ (b ++ e)[i]? = some (some o)) := fun m x h1 h2 => by
    rcases Nat.lt_or_ge m S0.objs.length with hm | hm
    · rw [hμ1 m hm] at h2
      by_cases hn : m ∈ s.objs.map (·.1)
      · exact ⟨m, hb2 m hn, h2, .inl ⟨hm, rfl, hdis m hn⟩⟩
      · by_cases hg : m ∈ s.gone
        · rw [hother m hm hn, if_pos hg] at h1; cases h1
        · rw [(hsame m hm hn hg).1] at h1
          exact ⟨m, h1, h2, .inl ⟨hm, rfl, hg⟩⟩
    · have e1 := hμ2 (m - S0.objs.length)
      rw [show S0.objs.length + (m - S0.objs.length) = m from by omega] at e1
      rw [e1, List.getD] at h2
      cases hx : (b ++ e)[m - S0.objs.length]? with
      | none => rw [hx] at h2; simp [srcV, blkOf] at h2
      | some o =>
        cases o with
        | none => rw [hx] at h2; simp [srcV, blkOf] at h2
        | some o =>
          rw [hx] at h2
          have hm2 : o ∈ used (b ++ e) := used_mem.2 (List.mem_of_getElem? hx)
          refine ⟨o, ?_, h2, .inr ⟨m - S0.objs.length, by omega, hx⟩⟩
          rw [used_append, List.mem_append] at hm2
          exact hm2.elim (hb1 o) (he1 o)
  have hown : ∀ x, own S2.ob μ2 x → own S'.ob μ' x := fun x hx => by
    obtain ⟨m, h1, h2⟩ := hx
    obtain ⟨o, h3, h4, _⟩ := hsrc m x h1 h2
    exact ⟨o, h3, h4⟩
  have hav : ∀ x, av c S2.ob μ2 x → av c S'.ob μ' x := fun x hx => hx.imp id (hown x)
  refine ⟨μ2, ⟨hsr.defers, ⟨?_, fun t v htv => ?_⟩, ⟨fun m => ?_, fun m m' x h1 h2 h3 h4 => ?_, fun x hx => .inr hx, fun x hx => hsr.objs.old x (hav x hx), fun p hp => ⟨(hsr.objs.lay p hp).1, fun a => (hsr.objs.lay p hp).2 (hav _ a)⟩⟩, hsr.keep, fun x hx => hsr.mine x (hown x hx)⟩, ?_⟩
  · rw [hsr.slots.size, hslots, p3, anyAll_len, hag.len]
  · rw [hslots] at htv
    refine VR.later (Keep.refl None w) (fun x _ hx => hav x hx) (fun _ h => h.elim) (fun o _ => Later.refl _ _ o) (hSl (fun t v ht => ?_) t v htv)
    rw [anyAll_get] at ht
    by_cases hd : t ∈ ds
    · rw [if_pos hd] at ht
      cases hx : S0.slots[t]? with
      | none => rw [hx] at ht; cases ht
      | some u => rw [hx] at ht; simp only [Option.map_some, Option.some.injEq] at ht; subst ht; exact .inl rfl
    · rw [if_neg hd] at ht
      have h1 := hsr.slots.each t v (by rw [hag.slot t hd]; exact ht)
      exact VR.later (Keep.refl None w) (fun _ _ h => h) (fun _ h => h.elim) (fun o ho => hlat o (hun1 o (oidsL_mem (List.mem_of_getElem? ht) ho))) h1
  · exact (horA m).later (Keep.refl None w) (fun x _ hx => hav x hx) (fun _ h => h.elim) (.inl rfl) (fun _ => rfl) (fun x h1 h2 => ⟨fun h => h.elim, own_lt hsr (hown x ⟨m, h1, h2⟩)⟩) (fun x _ => Later.refl _ _ x)
  · obtain ⟨o, k1, k2, k3⟩ := hsrc m x h1 h3
    obtain ⟨o', k4, k5, k6⟩ := hsrc m' x h2 h4
    have e1 := hsr.objs.apart o o' x k1 k4 k2 k5
    subst e1
    rcases k3 with ⟨g1, g2, g3⟩ | ⟨i, g1, g2⟩ <;> rcases k6 with ⟨g4, g5, g6⟩ | ⟨j, g4, g5⟩
    · rw [← g2, ← g5]
    · exfalso
      rcases hgone o (used_mem.2 (List.mem_of_getElem? g5)) with h5 | h5
      · omega
      · exact g3 (g2 ▸ h5)
    · exfalso
      rcases hgone o (used_mem.2 (List.mem_of_getElem? g2)) with h5 | h5
      · omega
      · exact g6 (g5 ▸ h5)
    · rw [g1, g4, used_inj hnd g2 g5]
  · refine ⟨by rw [hslots, p3, anyAll_len], fun t ht => ?_, by rw [hlen2]; omega, fun i hi => ?_, fun i hi => (by rw [ht0] at hi; cases hi), fun i hi => (hag.later i hi).trans (hlat i hi)⟩
    · rw [hslots, p4 t (fun hm => ht (hpos t hm)), anyAll_get, if_neg ht]
    · by_cases hn : i ∈ s.objs.map (·.1)
      · exact .inr (by rw [htou]; simp only [List.mem_append]; exact .inr hn)
      · by_cases hg : i ∈ s.gone
        · exact .inr (by rw [htou]; simp only [List.mem_append]; exact .inl hg)
        · obtain ⟨e1, e2⟩ := hsame i hi hn hg
          exact .inl (by rw [e1, e2])
theorem join_sound {c : Cx} {s : SSh} {S0 S' : St} {ds : List Nat} {K : s.den → Option ρ} {r : ρ} {μ0 μ' : Nat → Value} {a : Act} (hfit : s.fit S0 ds = true) (h : s.take S0.objs.length S' K = some r) (hsr : SR c S' μ' a w)
    (hag : Ag S0.objs.length ds S0 μ0 S' μ') (ht0 : S0.touched = []) :
    ∃ y, K y = some r ∧ ∃ μ2, SR c (s.lay S0 ds y) μ2 a w ∧ Ag S0.objs.length ds S0 μ0 (s.lay S0 ds y) μ2 := by
  have hpos : ∀ p ∈ s.slots, p.1 ∈ ds := fun p hp => by
    have := hfit
    simp only [SSh.fit, Bool.and_eq_true, unseen] at this
    rw [boundL_iff, boundO_iff, within0_iff, boundL_iff, nodup_iff, disj_iff] at this
    exact this.2.1 p.1 (List.mem_map.2 ⟨p, hp, rfl⟩)
  obtain ⟨S1, μ1, h1, hsr1, hag1⟩ := settle_sound (n := S0.objs.length) (ds := ds) _ h hsr hpos hag.olen
  exact join_sound0 hfit h1 hsr1 (hag.trans hag1 (fun _ h => h) (fun _ h => h)) ht0
end
end Go.Vm

/- Vm, part 20b: ranges over maps: the step. Own work. -/
set_option linter.unusedVariables false
set_option linter.unusedSimpArgs false
set_option linter.unusedSectionVars false
namespace Go.Vm
variable [MonotC]
open Go.RowKit
/-! ### What is laid does not hang on the other objects -/
mutual
theorem Sh.lay_ext : ∀ (s : Sh) (y : s.den) (l l' : List OB), l.length = l'.length → (Sh.lay s y l).1 = (Sh.lay s y l').1 ∧ ∃ news, (Sh.lay s y l).2 = l ++ news ∧ (Sh.lay s y l').2 = l' ++ news
  | .int _, y, l, l', h => ⟨rfl, [], by simp [Sh.lay], by simp [Sh.lay]⟩
  | .bool, y, l, l', h => ⟨rfl, [], by simp [Sh.lay], by simp [Sh.lay]⟩
  | .str, y, l, l', h => ⟨rfl, [], by simp [Sh.lay], by simp [Sh.lay]⟩
  | .sl _, y, l, l', h => ⟨rfl, [], by simp [Sh.lay], by simp [Sh.lay]⟩
  | .row T, y, l, l', h => ⟨by simp [Sh.lay, h], _, rfl, rfl⟩
  | .map T U, y, l, l', h => ⟨by simp [Sh.lay, h], _, rfl, rfl⟩
  | .bytes, y, l, l', h => ⟨by simp [Sh.lay, h], _, rfl, rfl⟩
  | .box d s, y, l, l', h => by
    obtain ⟨h1, news, h2, h3⟩ := Sh.lay_ext s y l l' h
    refine ⟨by simp only [Sh.lay, h2, h3, List.length_append, h], news ++ [.box d (Sh.lay s y l').1], by simp only [Sh.lay, h2, h1, List.append_assoc], by simp only [Sh.lay, h3, List.append_assoc]⟩
  | .agg s, y, l, l', h => by
    obtain ⟨h1, news, h2, h3⟩ := Shs.lay_ext s y l l' h
    exact ⟨by simp only [Sh.lay, h1], news, by simp only [Sh.lay, h2], by simp only [Sh.lay, h3]⟩
theorem Shs.lay_ext : ∀ (s : Shs) (y : s.den) (l l' : List OB), l.length = l'.length → (Shs.lay s y l).1 = (Shs.lay s y l').1 ∧ ∃ news, (Shs.lay s y l).2 = l ++ news ∧ (Shs.lay s y l').2 = l' ++ news
  | .nil, y, l, l', h => ⟨rfl, [], by simp [Shs.lay], by simp [Shs.lay]⟩
  | .cons s t, y, l, l', h => by
    obtain ⟨h1, n1, h2, h3⟩ := Sh.lay_ext s y.1 l l' h
    obtain ⟨h4, n2, h5, h6⟩ := Shs.lay_ext t y.2 (Sh.lay s y.1 l).2 (Sh.lay s y.1 l').2 (by rw [h2, h3]; simp [h])
    exact ⟨by simp only [Shs.lay, h1, h4], n1 ++ n2, by simp only [Shs.lay]; rw [h5, h2, List.append_assoc], by simp only [Shs.lay]; rw [h6, h3, List.append_assoc]⟩
  | .skip t, y, l, l', h => by
    obtain ⟨h1, news, h2, h3⟩ := Shs.lay_ext t y l l' h
    exact ⟨by simp only [Shs.lay, h1], news, by simp only [Shs.lay, h2], by simp only [Shs.lay, h3]⟩
end
theorem set_app {l m : List OB} {o : Nat} {X : OB} (h : o < l.length) : (l ++ m).set o X = l.set o X ++ m := List.set_append_left _ _ h
theorem layOb_set (s : Sh) (y : s.den) {p o : Nat} {X : OB} {L : List OB} (h : o < L.length) (hne : p ≠ o) : layOb s y p (L.set o X) = (layOb s y p L).set o X ∧ L.length ≤ (layOb s y p L).length := by
  cases s with
  | row T => exact ⟨List.set_comm _ _ (Ne.symm hne), by simp [layOb]⟩
  | map T U => exact ⟨List.set_comm _ _ (Ne.symm hne), by simp [layOb]⟩
  | box d s =>
    obtain ⟨h1, n1, h2, h3⟩ := Sh.lay_ext s y (L.set o X) L (by simp)
    refine ⟨?_, by simp only [layOb, h3]; simp⟩
    simp only [layOb, h2, h3, h1]
    rw [← set_app h]
    exact List.set_comm _ _ (Ne.symm hne)
  | _ => exact ⟨rfl, Nat.le_refl _⟩
theorem layObs_set {o : Nat} {X : OB} : ∀ (l : List (Nat × Sh)) (y : (shsOf l).den) (L : List OB), o < L.length → o ∉ l.map (·.1) → layObs l y (L.set o X) = (layObs l y L).set o X ∧ L.length ≤ (layObs l y L).length
  | [], y, L, h, hn => ⟨rfl, Nat.le_refl _⟩
  | p :: r, y, L, h, hn => by
    simp only [List.map_cons, List.mem_cons, not_or] at hn
    obtain ⟨h1, h2⟩ := layOb_set (X := X) p.2 y.1 (p := p.1) h (fun e => hn.1 e.symm)
    obtain ⟨h3, h4⟩ := layObs_set (X := X) r y.2 (layOb p.2 y.1 p.1 L) (by omega) hn.2
    simp only [layObs, h1, h3, true_and]
    omega
theorem laySlots_set {o : Nat} {X : OB} : ∀ (l : List (Nat × Sh)) (y : (shsOf l).den) (vs : List PV) (L : List OB), o < L.length → (laySlots l y vs (L.set o X)).1 = (laySlots l y vs L).1 ∧ (laySlots l y vs (L.set o X)).2 = (laySlots l y vs L).2.set o X ∧ L.length ≤ (laySlots l y vs L).2.length
  | [], y, vs, L, h => ⟨rfl, rfl, Nat.le_refl _⟩
  | p :: r, y, vs, L, h => by
    obtain ⟨h1, n1, h2, h3⟩ := Sh.lay_ext p.2 y.1 (L.set o X) L (by simp)
    simp only [laySlots, h1, h2]
    have e : L.set o X ++ n1 = (Sh.lay p.2 y.1 L).2.set o X := by rw [h3, set_app h]
    rw [e]
    obtain ⟨g1, g2, g3⟩ := laySlots_set (o := o) (X := X) r y.2 (vs.set p.1 (Sh.lay p.2 y.1 L).1) (Sh.lay p.2 y.1 L).2 (by rw [h3]; simp; omega)
    refine ⟨g1, g2, ?_⟩
    have : L.length ≤ (Sh.lay p.2 y.1 L).2.length := by rw [h3]; simp
    omega
theorem killAll_set {o : Nat} {X : OB} : ∀ (g : List Nat) (L : List OB), o ∉ g → killAll g (L.set o X) = (killAll g L).set o X
  | [], L, h => rfl
  | p :: g, L, h => by
    simp only [List.mem_cons, not_or] at h
    simp only [killAll]
    rw [List.set_comm _ _ h.1]
    exact killAll_set g _ h.2
theorem lay_set (s : SSh) (S : St) (ds : List Nat) (y : s.den) {o : Nat} {X : OB} (h : o < S.objs.length) (h1 : o ∉ s.gone) (h2 : o ∉ s.objs.map (·.1)) :
    s.lay { S with objs := S.objs.set o X } ds y = { s.lay S ds y with objs := (s.lay S ds y).objs.set o X } ∧ S.objs.length ≤ (s.lay S ds y).objs.length := by
  have e1 := killAll_set (X := X) s.gone S.objs h1
  obtain ⟨e2, e3⟩ := layObs_set (X := X) s.objs y.2 (killAll s.gone S.objs) (by rw [killAll_len]; exact h) h2
  rw [killAll_len] at e3
  obtain ⟨g1, g2, g3⟩ := laySlots_set (o := o) (X := X) s.slots y.1 (anyAll ds S.slots) (layObs s.objs y.2 (killAll s.gone S.objs)) (by omega)
  unfold SSh.lay
  simp only [e1, e2, g1, g2, true_and]
  omega
/-! ### What is laid leaves the other objects -/
theorem layOb_get (s : Sh) (y : s.den) {p x : Nat} {L : List OB} (h : x < L.length) (hne : p ≠ x) : (layOb s y p L)[x]? = L[x]? := by
  cases s with
  | row T => simp only [layOb]; rw [List.getElem?_set_ne hne]
  | map T U => simp only [layOb]; rw [List.getElem?_set_ne hne]
  | box d s =>
    obtain ⟨h1, n1, h2, h3⟩ := Sh.lay_ext s y L L rfl
    simp only [layOb, h2]
    rw [List.getElem?_set_ne hne, List.getElem?_append_left h]
  | _ => rfl
theorem layObs_get {x : Nat} : ∀ (l : List (Nat × Sh)) (y : (shsOf l).den) (L : List OB), x < L.length → x ∉ l.map (·.1) → (layObs l y L)[x]? = L[x]?
  | [], y, L, h, hn => rfl
  | p :: r, y, L, h, hn => by
    simp only [List.map_cons, List.mem_cons, not_or] at hn
    have hl := (layOb_set (X := .dead) p.2 y.1 (p := p.1) h (fun e => hn.1 e.symm)).2
    simp only [layObs]
    rw [layObs_get r y.2 _ (by omega) hn.2, layOb_get p.2 y.1 h (fun e => hn.1 e.symm)]
theorem laySlots_get {x : Nat} : ∀ (l : List (Nat × Sh)) (y : (shsOf l).den) (vs : List PV) (L : List OB), x < L.length → (laySlots l y vs L).2[x]? = L[x]?
  | [], y, vs, L, h => rfl
  | p :: r, y, vs, L, h => by
    obtain ⟨h1, n1, h2, h3⟩ := Sh.lay_ext p.2 y.1 L L rfl
    simp only [laySlots]
    rw [laySlots_get r y.2 _ _ (by rw [h2]; simp; omega), h2, List.getElem?_append_left h]
theorem lay_ob (s : SSh) (S : St) (ds : List Nat) (y : s.den) {x : Nat} (h : x < S.objs.length) (h1 : x ∉ s.gone) (h2 : x ∉ s.objs.map (·.1)) : (s.lay S ds y).ob x = S.ob x := by
  have e3 := (layObs_set (X := .dead) s.objs y.2 (killAll s.gone S.objs) (by rw [killAll_len]; exact h) h2).2
  rw [killAll_len] at e3
  have e : (s.lay S ds y).objs[x]? = (killAll s.gone S.objs)[x]? := by
    unfold SSh.lay
    rw [laySlots_get _ _ _ _ (by omega), layObs_get _ _ _ (by rw [killAll_len]; exact h) h2]
  have := killAll_get s.gone S.objs x
  rw [if_neg h1] at this
  simp only [St.ob, List.getD, e]
  exact this
theorem fit_set {s : SSh} {S : St} {ds : List Nat} {o : Nat} {X : OB} (h : s.fit S ds = true) (hx : X.oids = (S.ob o).oids) (ho : o < S.objs.length) : s.fit { S with objs := S.objs.set o X } ds = true := by
  simp only [SSh.fit, Bool.and_eq_true, unseen, List.length_set] at h ⊢
  refine ⟨⟨h.1.1, ?_⟩, h.2⟩
  have h2 := h.1.2
  rw [boundO_iff] at h2 ⊢
  intro b hb x hxb
  rcases List.mem_or_eq_of_mem_set hb with hb | rfl
  · exact h2 b hb x hxb
  · rw [hx] at hxb
    have : S.ob o ∈ S.objs := by
      simp only [St.ob, List.getD, List.getElem?_eq_getElem ho, Option.getD_some]
      exact List.getElem_mem ho
    exact h2 _ this x hxb
/-! ### States -/
section
variable {c : Cx} {S : St} {μ : Nat → Value} {a : Act} {w : World}
theorem SR.congr {S' : St} (h : SR c S μ a w) (h1 : S'.slots = S.slots) (h2 : S'.ob = S.ob) : SR c S' μ a w := ⟨h.defers, by rw [h1, h2]; exact h.slots, by rw [h2]; exact h.objs, h.keep, by rw [h2]; exact h.mine⟩
/-! ### The step -/
theorem perm_split {α : Type} {l : List α} {x : α} (h : x ∈ l) : ∃ r, l.Perm (x :: r) := by
  obtain ⟨s, t, rfl⟩ := List.append_of_mem h
  exact ⟨s ++ t, List.perm_middle⟩
theorem Ents.get {A : Nat → Prop} {K V : Ty} : ∀ {l : List (K.den × V.den × Nat)} {m : List MapEntry}, Ents w A K V l m → ∀ e ∈ m, ∃ x ∈ l, KeyR w A K x.1 e.key ∧ KeyR w A V x.2.1 e.val ∧ e.born = x.2.2
  | [], m, h => by simp only [Ents] at h; subst h; intro e he; cases he
  | x :: l, m, h => by
    simp only [Ents] at h
    obtain ⟨e', r, rfl, h1, h2, h3, h4, h5, h6⟩ := h
    intro e he
    rcases List.mem_cons.1 he with rfl | he
    · exact ⟨x, List.mem_cons_self .., ⟨h1, h2⟩, ⟨h3, h4⟩, h5⟩
    · obtain ⟨y, hy, hr⟩ := Ents.get h6 e he
      exact ⟨y, List.mem_cons_of_mem _ hy, hr⟩
theorem Ents.borns {A : Nat → Prop} {K V : Ty} : ∀ {l : List (K.den × V.den × Nat)} {m : List MapEntry}, Ents w A K V l m → m.map (·.born) = l.map (·.2.2)
  | [], m, h => by simp only [Ents] at h; subst h; rfl
  | x :: l, m, h => by
    simp only [Ents] at h
    obtain ⟨e', r, rfl, h1, h2, h3, h4, h5, h6⟩ := h
    simp [h5, Ents.borns h6]
theorem find_of_born : ∀ {m : List MapEntry}, (m.map (·.born)).Nodup → ∀ e ∈ m, m.find? (·.born == e.born) = some e
  | [], h, e, he => by cases he
  | x :: m, h, e, he => by
    simp only [List.map_cons, List.nodup_cons] at h
    rcases List.mem_cons.1 he with rfl | he
    · simp
    · have hne : (x.born == e.born) = false := by
        rw [beq_eq_false_iff_ne]
        exact fun hx => h.1 (List.mem_map.2 ⟨e, he, hx.symm⟩)
      rw [List.find?_cons, hne]
      exact find_of_born h.2 e he
variable {P : Program} {o1 o2 : Oper} {ops : Array Oper} {Q : Exit → Act → World → Prop}
theorem rangeOps_some {l : List Oper} {ti tn tm : Nat} (h : rangeOps l = some (ti, tn, tm)) : ∃ o1 o2, l = [o1, o2] ∧ o1.op = .next (.tmp ti) false ∧ o1.dst = some tn ∧ o1.guard = none ∧ o2.op = .extract (.tmp tn) 0 ∧ o2.dst = some tm ∧ o2.guard = none ∧ tn ≠ tm := by
  unfold rangeOps at h
  split at h
  · rename_i o1 o2
    split at h
    · rename_i x tn' y tm' h1 h2 h3 h4 h5 h6
      split at h
      · rename_i ti' tn2
        obtain ⟨hc, h⟩ := cond_some h
        simp only [Bool.and_eq_true, Bool.not_eq_true', ← Bool.not_eq_true, Nat.beq_eq] at hc
        simp only [Option.some.injEq, Prod.mk.injEq] at h
        obtain ⟨rfl, rfl, rfl⟩ := h
        obtain ⟨rfl, hne⟩ := hc
        exact ⟨o1, o2, rfl, h1, h2, h3, h4, h5, h6, hne⟩
      · cases h
    · cases h
  · cases h
/-- one entry that is left, or none is -/
theorem step_sound (hsr : SR c S μ a w) {ti tn tm : Nat} (hops : rangeOps ops.toList = some (ti, tn, tm)) {id : Nat} {o m : Nat} {T U : Ty} {since : Nat} {cc : MapC T U} {D R : List (T.den × U.den × Nat)} (hti : S.slots.getD ti .undef = .it o) (hit : S.ob o = .iter m T U since (D.map (·.2.2)) none) (hmap : S.ob m = .map T U cc)
    (hperm : (D ++ R).Perm cc.1) (htn : tn < S.slots.length)
    (h0 : R = [] → ∀ a' w', SR c ((S.put (some tn) (.tup [.bool false])).put (some tm) (.bool false)) μ a' w' → Q .normal a' w')
    (h1 : ∀ e R', R.Perm (e :: R') → ∀ a' w', SR c (((S.setOb o (.iter m T U since ((D ++ [e]).map (·.2.2)) (some (e.1, e.2.1)))).put (some tn) (.tup [.bool true, explode T e.1, explode U e.2.1])).put (some tm) (.bool true)) μ a' w' → Q .normal a' w') :
    (Code.region id ops false).wp P Q a w := by
  obtain ⟨o1, o2, hl, g1, g2, g3, g4, g5, g6, hne⟩ := rangeOps_some hops
  have hsz : ops.size = 2 := by rw [← Array.length_toList, hl]; rfl
  have hi0 : ops[0]? = some o1 := by rw [← Array.getElem?_toList, hl]; rfl
  have hi1 : ops[1]? = some o2 := by rw [← Array.getElem?_toList, hl]; rfl
  refine wp_region ?_
  rw [hsz, show List.range 2 = [0, 1] from rfl]
  have hne' : ∀ o : Oper, o.guard = none → ∀ t, Region.wanted o t = true := fun o h t => by simp [Region.wanted, h]
  simp only [wpOps, hi0, hi1, hne' o1 g3, if_true, hne' o2 g6]
  refine .inl ?_
  have hiv := hsr.slots.opd (.tmp ti)
  simp only [opd, hti] at hiv
  have hmu := hiv.it hit
  have hor := hsr.objs.each o
  simp only [OR, hit] at hor
  obtain ⟨b, hb, hblt, hrest⟩ := hor
  obtain ⟨bm, mes, hm1, hm2, hm3, _⟩ := hrest (by rw [hmap]; rfl)
  have horm := hsr.objs.each m
  simp only [OR, hmap] at horm
  obtain ⟨bm', mes', hm4, hm5, hents, hbo⟩ := horm
  rw [hm1] at hm4
  simp only [Value.map.injEq, Option.some.injEq] at hm4
  subst hm4
  rw [hm3] at hm5
  simp only [Option.some.injEq, Obj.map.injEq] at hm5
  obtain ⟨rfl, hsince⟩ := hm5
  have hborn : ∀ e ∈ mes.toList, e.born < since := fun e he => by
    obtain ⟨x, hx, _, _, h5⟩ := hents.get e he
    rw [h5, hsince]; exact hbo.2 x hx
  have hnd : (mes.toList.map (·.born)).Nodup := by
    rw [hents.borns]
    exact (List.pairwise_map.2 hbo.1).imp (fun h => Nat.ne_of_lt h)
  have hev : a.eval (.tmp ti) = .pointer (some ⟨b, 0, none⟩) := by rw [← hmu, hb]
  have hsecond : ∀ (a' : Act) (w' : World) (S' : St) (pv : PV) (vs : Array Value) (bv : Bool), SR c S' μ a' w' → a'.eval (.tmp tn) = .tuple vs → vs[0]? = some (.bool bv) → (∀ a' w', SR c (S'.put (some tm) (.bool bv)) μ a' w' → Q .normal a' w') →
      o2.wp P a' w' (fun x y => Q .normal x y) Q := by
    intro a' w' S' pv vs bv hs' hv hv0 hQ
    refine wp_value (v := .bool bv) (w' := w') ?_ ?_
    · simp only [execOp, g4]
      refine run_val ?_
      simp [Instr.extract, hv, hv0]
    · refine hQ _ _ ?_
      rw [g5]
      exact ⟨by rw [put_defers]; exact hs'.defers, by rw [put_ob]; exact Slots.put hs'.slots rfl (.mk_bool _), by rw [put_ob]; exact hs'.objs, hs'.keep, by rw [put_ob]; exact hs'.mine⟩
  have hevn : ∀ (S' : St) (w' : World) (v : Value), S'.slots.length = a.tmps.size → tn < S'.slots.length → (a.put o1.dst v).eval (.tmp tn) = v := by
    intro S' w' v hsz hlt
    rw [g2]
    simp [Act.put, Act.eval, Array.getD, show tn < a.tmps.size by omega]
  have hlen : S.slots.length = a.tmps.size := hsr.slots.size.symm
  have hputSR : ∀ {S' : St} {a' : Act} {w' : World} {pv : PV} {v : Value}, SR c S' μ a' w' → VR w' (av c S'.ob μ) S'.ob μ pv v → SR c (S'.put (some tn) pv) μ (a'.put (some tn) v) w' := fun hs' hv =>
    ⟨by rw [put_defers]; exact hs'.defers, by rw [put_ob]; exact Slots.put hs'.slots rfl hv, by rw [put_ob]; exact hs'.objs, hs'.keep, by rw [put_ob]; exact hs'.mine⟩
  have hleft : ∀ e ∈ (leftOf mes (D.map (·.2.2)).toArray).toList, e ∈ mes.toList ∧ e.born ∉ D.map (·.2.2) := fun e he => by
    simp only [leftOf, Array.toList_filter, List.mem_filter] at he
    exact ⟨he.1, by simpa using he.2⟩
  have hin : ∀ x ∈ cc.1, x.2.2 ∉ D.map (·.2.2) → x ∈ R := fun x hx hn => by
    have := hperm.mem_iff.2 hx
    rcases List.mem_append.1 this with h | h
    · exact absurd (List.mem_map.2 ⟨x, h, rfl⟩) hn
    · exact h
  rcases run_next_at (P := P) w o1.type b bm since since (D.map (·.2.2)).toArray mes since hm2 hm3 hborn (Nat.le_refl _) with ⟨hz, hrun⟩ | ⟨e, he, w1, hw1, hrun⟩
  · have hR : R = [] := by
      cases hRe : R with
      | nil => rfl
      | cons x R' =>
        exfalso
        have hx : x ∈ cc.1 := hperm.mem_iff.1 (by rw [hRe]; simp)
        have hnd2 : (cc.1.map (·.2.2)).Nodup := by rw [← hents.borns]; exact hnd
        have hnd3 : ((D ++ R).map (·.2.2)).Nodup := (hperm.map _).nodup_iff.2 hnd2
        rw [hRe, List.map_append, List.map_cons] at hnd3
        have hxn : x.2.2 ∉ D.map (·.2.2) := fun h => by
          have := (List.nodup_append.1 hnd3).2.2 _ h x.2.2 (by simp)
          exact this rfl
        have : x.2.2 ∈ mes.toList.map (·.born) := by rw [hents.borns]; exact List.mem_map.2 ⟨x, hx, rfl⟩
        obtain ⟨e, he, heq⟩ := List.mem_map.1 this
        have : e ∈ (leftOf mes (D.map (·.2.2)).toArray).toList := by
          simp only [leftOf, Array.toList_filter, List.mem_filter]
          refine ⟨he, ?_⟩
          rw [heq]
          simpa using hxn
        have h0 : (leftOf mes (D.map (·.2.2)).toArray).toList = [] := by
          rw [← List.length_eq_zero_iff, Array.length_toList]; exact hz
        rw [h0] at this
        cases this
    refine wp_value (v := .tuple #[.bool false]) (w' := w) ?_ ?_
    · simp only [execOp, g1, hev]
      exact run_val hrun
    · have hs1 := hputSR (pv := .tup [.bool false]) (v := .tuple #[.bool false]) hsr (by
        refine .of_one ?_ rfl rfl
        simp only [CR, TRs]
        exact ⟨_, rfl, _, _, rfl, .inr ⟨rfl, rfl⟩, rfl⟩)
      rw [g2]
      refine .inl ?_
      refine hsecond _ _ _ .any #[.bool false] false hs1 ?_ rfl (fun a' w' h => h0 hR a' w' h)
      have := hevn S w (.tuple #[.bool false]) hlen htn
      rwa [g2] at this
  · obtain ⟨he1, he2⟩ := hleft e he
    obtain ⟨x, hx, k1, k2, k3⟩ := hents.get e he1
    have hxR : x ∈ R := hin x hx (by rw [← k3]; exact he2)
    obtain ⟨R', hR'⟩ := perm_split hxR
    have hkd : Keep None w w1 := by
      rcases hw1 with rfl | rfl
      · exact Keep.refl _ _
      · exact Keep.drew _ _
    have hw1h : w1.heap = w.heap := by rcases hw1 with rfl | rfl <;> rfl
    have hkp : Keep (· = b) w (ChangeMaps.setBlock w1 b (.mapIter (some bm) since ((D.map (·.2.2)).toArray.push e.born) since)) := by
      have h2 : Keep (· = b) w1 (ChangeMaps.setBlock w1 b (.mapIter (some bm) since ((D.map (·.2.2)).toArray.push e.born) since)) := by
        refine ⟨rfl, rfl, rfl, by simp [ChangeMaps.setBlock], fun _ => Nat.le_refl _, fun y _ _ => ?_, fun y hy hn => ?_, fun y cs t z hy => ?_⟩
        rotate_left 2
        · simp only [ChangeMaps.setBlock, Array.getElem?_setIfInBounds]
          by_cases e' : b = y
          · subst e'
            rw [hw1h, hm2] at hy; cases hy
          · rw [if_neg e']; exact ⟨cs, z, hy⟩
        · unfold World.frozen?
          simp only [ChangeMaps.setBlock, Array.getElem?_setIfInBounds]
          by_cases e' : b = y.block
          · subst e'
            rw [if_pos rfl, if_pos (by rw [hw1h]; exact hblt), hw1h, hm2]
          · rw [if_neg e']
        · simp only [ChangeMaps.setBlock, Array.getElem?_setIfInBounds]
          rw [if_neg (fun e => hn e.symm)]
      exact hkd.trans h2 (fun _ h => h.elim) (fun _ _ h => h)
    have hne2 : m ≠ o := fun h => by rw [h, hit] at hmap; cases hmap
    have hbne : bm ≠ b := fun h => by subst h; rw [hm2] at hm3; cases hm3
    have hav : av c S.ob μ b := .inr ⟨o, by rw [hit]; rfl, by rw [hb]; rfl⟩
    obtain ⟨hs1, _⟩ := hsr.write (o := o) (b := b) (nb := .iter m T U since ((D ++ [x]).map (·.2.2)) (some (x.1, x.2.1))) (by rw [hit]; rfl) (by rw [hb]; rfl) hkp (by unfold Later; rw [upd_same]; exact ⟨⟨_, _, _, _, hit⟩, rfl⟩) rfl (by
      unfold OR
      rw [upd_same]
      refine ⟨b, hb, Nat.lt_of_lt_of_le hblt hkp.size, fun _ => ⟨bm, mes, hm1, ?_, ?_, fun kv hkv => ?_⟩⟩
      · simp only [ChangeMaps.setBlock, Array.getElem?_setIfInBounds]
        simp only [if_true]
        rw [if_pos (by rw [hw1h]; exact hblt)]
        simp [k3]
      · rw [hkp.block bm (by
          rcases Nat.lt_or_ge bm w.heap.size with g | g
          · exact g
          · rw [Array.getElem?_eq_none g] at hm3; cases hm3) hbne]
        exact hm3
      · cases hkv
        refine ⟨x.2.2, e, by simp, ?_, (k1.keep hkp (fun _ _ h => h) (fun y e => by subst e; exact hav)).1, k1.2, (k2.keep hkp (fun _ _ h => h) (fun y e => by subst e; exact hav)).1, k2.2⟩
        rw [← k3, ← Array.find?_toList]
        exact find_of_born hnd e he1) (no_iter hsr (by rw [hit]; rfl) (fun bb h => by rw [hb] at h; cases h))
    refine wp_value (v := .tuple #[.bool true, e.key, e.val]) (w' := ChangeMaps.setBlock w1 b (.mapIter (some bm) since ((D.map (·.2.2)).toArray.push e.born) since)) ?_ ?_
    · simp only [execOp, g1, hev]
      exact run_val hrun
    · have hs2 := hputSR (pv := .tup [.bool true, explode T x.1, explode U x.2.1]) (v := .tuple #[.bool true, e.key, e.val]) hs1 (by
        refine .of_one ?_ rfl rfl
        simp only [CR, TRs]
        have hobw := ob_setOb S o (.iter m T U since ((D ++ [x]).map (·.2.2)) (some (x.1, x.2.1))) (by rw [hit]; rfl)
        have hav2 : ∀ y, y < w.heap.size → av c (S.setOb o (.iter m T U since ((D ++ [x]).map (·.2.2)) (some (x.1, x.2.1)))).ob μ y → av c S.ob μ y := fun y _ hy => hy.imp (fun h => h) (fun hy => by
          obtain ⟨o', q1, q2⟩ := hy
          rw [hobw] at q1
          by_cases e' : o' = o
          · exact ⟨o', by rw [e', hit]; rfl, q2⟩
          · rw [upd_other _ _ e'] at q1; exact ⟨o', q1, q2⟩)
        exact ⟨_, rfl, _, _, rfl, .inr ⟨rfl, rfl⟩, _, _, rfl, VR.data (k1.keep hkp hav2 (fun y e => by subst e; exact hav)).1 k1.2, _, _, rfl, VR.data (k2.keep hkp hav2 (fun y e => by subst e; exact hav)).1 k2.2, rfl⟩)
      rw [g2]
      refine .inl ?_
      refine hsecond _ _ _ .any #[.bool true, e.key, e.val] true hs2 ?_ rfl (fun a' w' h => h1 x R' hR' a' w' h)
      have := hevn S w (.tuple #[.bool true, e.key, e.val]) hlen htn
      rwa [g2] at this
end
end Go.Vm

/- Vm, part 21: control is right. Own work. -/
set_option linter.unusedVariables false
set_option linter.unusedSimpArgs false
set_option linter.unusedSectionVars false
namespace Go.Vm
variable [MonotC]
open Go.RowKit
section
variable {P : Program} {E : Env} {H : Hints} {c : Cx}
theorem SR.touch {S : St} {μ : Nat → Value} {a : Act} {w : World} (h : SR c S μ a w) (l : List Nat) : SR c (S.touch l) μ a w := ⟨h.defers, h.slots, h.objs, h.keep, h.mine⟩
/-- what holds behind: for each way out -/
structure Post (c : Cx) {σ : Type} (K : Kt σ) (r0 : σ) (m : Nat) (ds : List Nat) (S : St) (μ : Nat → Value) (Q : Exit → Act → World → Prop) : Prop where
  n : ∀ S' μ' a' w', K.n S' = some r0 → SR c S' μ' a' w' → Ag m ds S μ S' μ' → Q .normal a' w'
  x : ∀ j S' μ' a' w', K.x j S' = some r0 → SR c S' μ' a' w' → Ag m ds S μ S' μ' → Q (.exit j) a' w'
  r : ∀ S' μ' a' w', K.r S' = some r0 → SR c S' μ' a' w' → Ag m ds S μ S' μ' → Q .ret a' w'
def GoOK (P : Program) (c : Cx) (code : Code) (ds : List Nat) (S0 : St) (go : {τ : Type} → St → Kt τ → Option τ) : Prop :=
  ∀ {τ : Type} (S : St) (K : Kt τ) (r : τ) (μ : Nat → Value) (a : Act) (w : World) (n : Nat) (Q : Exit → Act → World → Prop), S.slots = S0.slots → S.objs = S0.objs → go S K = some r → SR c S μ a w → n ≤ S.objs.length → Post c K r n ds S μ Q → code.wp P Q a w
theorem Ag.touch {n : Nat} {ds : List Nat} {S S' : St} {μ μ' : Nat → Value} (h : Ag n ds (S.touch []) μ S' μ') (l : List Nat) (hl : ∀ i ∈ S'.touched, i ∈ l) (hs : ∀ i ∈ S.touched, i ∈ l) : Ag n ds S μ (S'.touch l) μ' :=
  ⟨h.len, h.slot, h.olen, fun i hi => (h.ob i hi).imp id (hl i), fun i hi => hs i hi, h.later⟩
theorem Ag.less {n m : Nat} {ds : List Nat} {S S' : St} {μ μ' : Nat → Value} (h : Ag n ds S μ S' μ') (hm : m ≤ n) : Ag m ds S μ S' μ' :=
  ⟨h.len, h.slot, Nat.le_trans hm h.olen, fun i hi => h.ob i (by omega), h.touched, fun i hi => h.later i (by omega)⟩
theorem meet_sound {code : Code} {h : Option SSh} {ds : List Nat} {S : St} {go : {τ : Type} → St → Kt τ → Option τ} (hgo : GoOK P c code ds S go) {σ : Type} {K : Kt σ} {r : σ} {μ : Nat → Value} {a : Act} {w : World} {n : Nat} {Q : Exit → Act → World → Prop}
    (he : meetK h ds S K go = some r) (hsr : SR c S μ a w) (hn : n ≤ S.objs.length) (hp : Post c K r n ds S μ Q) : code.wp P Q a w := by
  unfold meetK at he
  split at he
  · exact hgo S K r μ a w n Q rfl rfl he hsr hn hp
  · rename_i s
    obtain ⟨hfit, he⟩ := cond_some he
    obtain ⟨r1, h1, h2⟩ := Option.bind_eq_some_iff.1 he
    refine hgo (S.touch []) _ r1 μ a w S.objs.length Q rfl rfl h1 (hsr.touch []) (Nat.le_refl _) ⟨fun S' μ' a' w' hk hs hag => ?_, fun j S' μ' a' w' hk hs hag => ?_, fun S' μ' a' w' hk hs hag => ?_⟩
    · have hk' : s.take (S.touch []).objs.length S' (fun y => some (Sum.inr y)) = some r1 := hk
      obtain ⟨y, hy, μ2, h3, h4⟩ := join_sound (S0 := S.touch []) (s := s) (ds := ds) hfit hk' hs hag rfl
      simp only [Option.some.injEq] at hy
      subst hy
      simp only at h2
      exact hp.n _ μ2 a' w' h2 (h3.touch _) (Ag.less (h4.touch _ (fun i hi => by simp only [List.mem_append]; left; simpa [SSh.lay] using hi) (fun i hi => by simp [hi])) hn)
    · obtain ⟨z, hz, hz2⟩ := Option.map_eq_some_iff.1 hk
      subst hz2
      simp only [Option.some.injEq] at h2
      subst h2
      exact hp.x j _ μ' a' w' hz (hs.touch _) (Ag.less (hag.touch _ (fun i hi => by simp [hi]) (fun i hi => by simp [hi])) hn)
    · obtain ⟨z, hz, hz2⟩ := Option.map_eq_some_iff.1 hk
      subst hz2
      simp only [Option.some.injEq] at h2
      subst h2
      exact hp.r _ μ' a' w' hz (hs.touch _) (Ag.less (hag.touch _ (fun i hi => by simp [hi]) (fun i hi => by simp [hi])) hn)
/-! ### Ranges over maps -/
def iterOf (q : RangeAt) (D : List (q.K.den × q.V.den × Nat)) (cur : Option (q.K.den × q.V.den)) : OB := .iter q.m q.K q.V q.since (D.map (·.2.2)) cur
/-- with another object at a place -/
def St.setX (S : St) (o : Nat) (X : OB) : St := { S with objs := S.objs.set o X }
theorem setX_ob {S : St} {o : Nat} {X : OB} (h : o < S.objs.length) : (S.setX o X).ob = upd S.ob o X := by
  funext x
  simp only [St.ob, St.setX, upd, List.getD, List.getElem?_set]
  by_cases e : x = o
  · subst e; simp [h]
  · rw [if_neg (fun h => e h.symm), if_neg e]
theorem lay_setX {s : SSh} {S : St} {ds : List Nat} {y : s.den} {o : Nat} {X : OB} (h : o < S.objs.length) (h1 : o ∉ s.gone) (h2 : o ∉ s.objs.map (·.1)) : s.lay (S.setX o X) ds y = (s.lay S ds y).setX o X := (lay_set s S ds y h h1 h2).1
theorem lay_len {s : SSh} {S : St} {ds : List Nat} {y : s.den} {o : Nat} (h : o < S.objs.length) (h1 : o ∉ s.gone) (h2 : o ∉ s.objs.map (·.1)) : o < (s.lay S ds y).objs.length := Nat.lt_of_lt_of_le h (lay_set (X := .dead) s S ds y h h1 h2).2
theorem SR.uncur {S : St} {μ : Nat → Value} {a : Act} {w : World} (h : SR c S μ a w) {o m : Nat} {T U : Ty} {n : Nat} {l : List Nat} {cur : Option (T.den × U.den)} (ho : S.ob o = .iter m T U n l cur) : SR c (S.setX o (.iter m T U n l none)) μ a w := by
  have hal : (S.ob o).alive = true := by rw [ho]; rfl
  have hor := h.objs.each o
  simp only [OR, ho] at hor
  obtain ⟨b, hb, hlt, hr⟩ := hor
  obtain ⟨h1, _⟩ := h.write (o := o) (b := b) (w' := w) (nb := .iter m T U n l none) hal (by rw [hb]; rfl) (Keep.refl _ w) (by unfold Later; rw [upd_same]; exact ⟨⟨_, _, _, _, ho⟩, rfl⟩) rfl (by
    unfold OR
    rw [upd_same]
    refine ⟨b, hb, hlt, fun ha => ?_⟩
    by_cases e : m = o
    · subst e
      obtain ⟨bm, mes, g1, g2, g3, g4⟩ := hr hal
      exact ⟨bm, mes, g1, g2, g3, fun kv hkv => by cases hkv⟩
    · rw [upd_other _ _ e] at ha
      obtain ⟨bm, mes, g1, g2, g3, g4⟩ := hr ha
      exact ⟨bm, mes, g1, g2, g3, fun kv hkv => by cases hkv⟩) (no_iter h hal (fun bb hh => by rw [hb] at hh; cases hh))
  exact h1.congr rfl (by rw [ob_setOb _ _ _ hal, setX_ob (alive_lt hal)])
theorem rangeAt_some {S : St} {ti : Nat} {q : RangeAt} (h : rangeAt S ti = some q) : S.slots.getD ti .undef = .it q.o ∧ (∃ cur, S.ob q.o = .iter q.m q.K q.V q.since [] cur) ∧ ∃ cc : MapC q.K q.V, S.ob q.m = .map q.K q.V cc ∧ q.es = cc.1 := by
  unfold rangeAt at h
  split at h
  · rename_i o ho
    split at h
    · rename_i m T U since seen cur hit
      split at h
      · rename_i T' U' c hm
        obtain ⟨cc, hc, h⟩ := Option.bind_eq_some_iff.1 h
        obtain ⟨e1, e2, e3⟩ := castM_some hc
        subst e1; subst e2; subst e3
        split at h
        · simp only [Option.some.injEq] at h
          subst h
          exact ⟨ho, ⟨cur, hit⟩, c, hm, rfl⟩
        · cases h
      · cases h
    · cases h
  · cases h
theorem Ag.setX {n : Nat} {ds : List Nat} {S T : St} {μ μ' : Nat → Value} {o : Nat} {q : RangeAt} {D D' : List (q.K.den × q.V.den × Nat)} {cur cur' : Option (q.K.den × q.V.den)} (hS : o < S.objs.length) (hT : o < T.objs.length) (hon : o < n)
    (h : Ag n ds (S.setX o (iterOf q D cur)) μ (T.setX o (iterOf q D cur)) μ') : Ag n ds (S.setX o (iterOf q D' cur')) μ (T.setX o (iterOf q D' cur')) μ' := by
  refine ⟨h.len, h.slot, by simpa [St.setX] using h.olen, fun i hi => ?_, h.touched, fun i hi => ?_⟩
  · rw [setX_ob hS, setX_ob hT]
    by_cases e : i = o
    · subst e; left; rw [upd_same, upd_same]
    · rw [upd_other _ _ e, upd_other _ _ e]
      have := h.ob i hi
      rw [setX_ob hS, setX_ob hT, upd_other _ _ e, upd_other _ _ e] at this
      exact this
  · have := h.later i hi
    rw [setX_ob hS, setX_ob hT] at this ⊢
    unfold Later at this ⊢
    by_cases e : i = o
    · subst e
      rw [upd_same] at this ⊢
      simp only [iterOf] at this ⊢
      rw [upd_same]
      exact ⟨⟨_, _, _, _, rfl⟩, this.2⟩
    · rw [upd_other _ _ e] at this ⊢
      rw [upd_other _ _ e] at this ⊢
      exact this
theorem range_loop {hd out : SSh} {ex ti tn tm id : Nat} {ops : Array Oper} {rest : Code} {ds : List Nat} (hds : ds = dsts (.seq (.region id ops false) rest)) (hops : rangeOps ops.toList = some (ti, tn, tm)) {S : St} {q : RangeAt} (hq : rangeAt S ti = some q)
    (hfit1 : hd.fit S ds = true) (hfit2 : out.fit S ds = true) (hrf : rangeFit hd out S ds ti tn q.o q.m = true) {go : St → Kt (hd.den ⊕ out.den) → Option (hd.den ⊕ out.den)}
    (hgo : ∀ (S : St) (K : Kt (hd.den ⊕ out.den)) (r : hd.den ⊕ out.den) (μ : Nat → Value) (a : Act) (w : World) (n : Nat) (Q : Exit → Act → World → Prop), go S K = some r → SR c S μ a w → n ≤ S.objs.length → Post c K r n (dsts rest) S μ Q → rest.wp P Q a w)
    {μ : Nat → Value} {n : Nat} (hn : n ≤ S.objs.length) {Q : Exit → Act → World → Prop} {Good : Option out.den → Prop} (hsome : ∀ x, Good x → ∃ z, x = some z)
    (hfin : ∀ z μ' a' w', Good (some z) → SR c (S.ranged out ds q.o z) μ' a' w' → Ag n ds S μ (S.ranged out ds q.o z) μ' → Q (.exit ex) a' w') :
    ∀ (k : Nat) (R D : List (q.K.den × q.V.den × Nat)) (y : hd.den) (μ1 : Nat → Value) (a : Act) (w : World), R.length = k → (D ++ R).Perm q.es →
      (∀ l, l.Perm R → Good (rangeM (fun D e y => go (S.round hd ds tn tm q D e y) (rangeKt hd out S.objs.length ex)) (fun D y => go (S.over hd ds tn tm q D y) (rangeKt hd out S.objs.length ex)) l D y)) →
      SR c (hd.lay (S.setX q.o (iterOf q D none)) ds y) μ1 a w → Ag S.objs.length ds ((S.setX q.o (iterOf q D none)).touch []) μ (hd.lay (S.setX q.o (iterOf q D none)) ds y) μ1 → Code.rounds P (.seq (.region id ops false) rest) Q (k + 1) a w := by
  obtain ⟨hti, ⟨cur0, hit⟩, cc, hmap, hes⟩ := rangeAt_some hq
  have hol : q.o < S.objs.length := alive_lt (by rw [hit]; rfl)
  have hml : q.m < S.objs.length := alive_lt (by rw [hmap]; rfl)
  simp only [rangeFit, Bool.and_eq_true, Bool.not_eq_true', ← Bool.not_eq_true, mem_iff, disj_iff, Nat.beq_eq] at hrf
  obtain ⟨htn, htd, hd1, hd2, hom⟩ := hrf
  have htn : tn < S.slots.length := by simpa using htn
  have ho1 : q.o ∉ hd.gone := fun h => hd1 q.o (by simp) (List.mem_append_left _ h)
  have ho2 : q.o ∉ hd.objs.map (·.1) := fun h => hd1 q.o (by simp) (List.mem_append_right _ h)
  have ho3 : q.o ∉ out.gone := fun h => hd2 q.o (by simp) (List.mem_append_left _ h)
  have ho4 : q.o ∉ out.objs.map (·.1) := fun h => hd2 q.o (by simp) (List.mem_append_right _ h)
  have hm1 : q.m ∉ hd.gone := fun h => hd1 q.m (by simp) (List.mem_append_left _ h)
  have hm2 : q.m ∉ hd.objs.map (·.1) := fun h => hd1 q.m (by simp) (List.mem_append_right _ h)
  obtain ⟨o1, o2, hl, g1, g2, g3, g4, g5, g6, hne⟩ := rangeOps_some hops
  have htnds : tn ∈ ds := by rw [hds]; simp only [dsts, List.mem_append]; left; exact dstsOps_mem (o := o1) (by rw [hl]; simp) g2
  have htmds : tm ∈ ds := by rw [hds]; simp only [dsts, List.mem_append]; left; exact dstsOps_mem (o := o2) (by rw [hl]; simp) g5
  have hrds : ∀ t, t ∈ dsts rest → t ∈ ds := fun t ht => by rw [hds]; simp only [dsts, List.mem_append]; exact .inr ht
  have hoids : ∀ D cur, (iterOf q D cur).oids = (S.ob q.o).oids := fun D cur => by rw [hit]; rfl
  -- the same, however far
  have hlayX : ∀ (y : hd.den) (X : OB), hd.lay (S.setX q.o X) ds y = (hd.lay S ds y).setX q.o X := fun y X => lay_setX hol ho1 ho2
  have hlayl : ∀ y : hd.den, q.o < (hd.lay S ds y).objs.length := fun y => lay_len hol ho1 ho2
  have hputAg : ∀ {D : List (q.K.den × q.V.den × Nat)} {cur : Option (q.K.den × q.V.den)} {T : St} {μ1 : Nat → Value} {pv pv' : PV}, Ag S.objs.length ds ((S.setX q.o (iterOf q D cur)).touch []) μ T μ1 → Ag S.objs.length ds ((S.setX q.o (iterOf q D cur)).touch []) μ ((T.put (some tn) pv).put (some tm) pv') μ1 := by
    intro D cur T μ1 pv pv' h
    refine ⟨by rw [put_len, put_len]; exact h.len, fun t ht => ?_, by rw [put_objs, put_objs]; exact h.olen, fun i hi => by rw [put_ob, put_ob, put_touched, put_touched]; exact h.ob i hi, fun i hi => by rw [put_touched, put_touched]; exact h.touched i hi, fun i hi => by rw [put_ob, put_ob]; exact h.later i hi⟩
    rw [put_slots _ _ _ _ (fun e => ht (by cases e; exact htmds)), put_slots _ _ _ _ (fun e => ht (by cases e; exact htnds))]
    exact h.slot t ht
  have hbody : ∀ (D' : List (q.K.den × q.V.den × Nat)) (cur' : Option (q.K.den × q.V.den)) (S1 : St) (x : hd.den ⊕ out.den) (μ1 : Nat → Value) (a : Act) (w : World) (Qn : Act → World → Prop), go S1 (rangeKt hd out S.objs.length ex) = some x → SR c S1 μ1 a w → Ag S.objs.length ds ((S.setX q.o (iterOf q D' cur')).touch []) μ S1 μ1 →
      (∀ y', x = .inl y' → ∀ μ2 a' w', SR c (hd.lay (S.setX q.o (iterOf q D' none)) ds y') μ2 a' w' → Ag S.objs.length ds ((S.setX q.o (iterOf q D' none)).touch []) μ (hd.lay (S.setX q.o (iterOf q D' none)) ds y') μ2 → Qn a' w') →
      (∀ z, x = .inr z → Good (some z)) → rest.wp P (Exit.then Qn Q) a w := by
    intro D' cur' S1 x μ1 a w Qn hx hsr hag hinl hinr
    have hlen0 : ((S.setX q.o (iterOf q D' cur')).touch []).objs.length = S.objs.length := by simp [St.setX, St.touch]
    have hXob : ((S.setX q.o (iterOf q D' cur')).touch []).ob = upd S.ob q.o (iterOf q D' cur') := setX_ob (X := iterOf q D' cur') hol
    refine hgo S1 _ x μ1 a w S.objs.length _ hx hsr hag.olen ⟨fun S' μ' a' w' hk hs hag2 => ?_, fun j S' μ' a' w' hk hs hag2 => ?_, fun S' μ' a' w' hk hs hag2 => (by cases hk)⟩
    · have hk' : hd.take ((S.setX q.o (iterOf q D' cur')).touch []).objs.length S' (fun y => some (Sum.inl y)) = some x := by rw [hlen0]; exact hk
      obtain ⟨y2, hy, μ2, h5, h6⟩ := join_sound (S0 := (S.setX q.o (iterOf q D' cur')).touch []) (s := hd) (ds := ds) (fit_set hfit1 (hoids D' cur') hol) hk' hs (by rw [hlen0]; exact hag.trans hag2 (fun _ h => h) hrds) rfl
      simp only [Option.some.injEq] at hy
      rw [hlen0] at h6
      have h5' : SR c ((hd.lay S ds y2).setX q.o (iterOf q D' cur')) μ2 a' w' := by rw [← hlayX]; exact h5
      have h6' : Ag S.objs.length ds ((S.setX q.o (iterOf q D' cur')).touch []) μ (hd.lay (S.setX q.o (iterOf q D' cur')) ds y2) μ2 := h6
      refine hinl y2 hy.symm μ2 a' w' ?_ ?_
      · have h7 := h5'.uncur (o := q.o) (m := q.m) (T := q.K) (U := q.V) (n := q.since) (l := D'.map (·.2.2)) (cur := cur') (by rw [setX_ob (hlayl y2), upd_same]; rfl)
        rw [hlayX]
        refine h7.congr rfl ?_
        have hl2 : q.o < ((hd.lay S ds y2).setX q.o (iterOf q D' cur')).objs.length := by simpa [St.setX] using hlayl y2
        rw [setX_ob (hlayl y2), setX_ob hl2, setX_ob (hlayl y2)]
        funext i
        by_cases e : i = q.o
        · subst e; rw [upd_same, upd_same]; rfl
        · rw [upd_other _ _ e, upd_other _ _ e, upd_other _ _ e]
      · rw [hlayX] at h6' ⊢
        exact Ag.setX (S := S.touch []) (T := hd.lay S ds y2) (q := q) hol (hlayl y2) hol h6'
    · by_cases e : j = ex
      · subst e
        simp only [rangeKt, Nat.beq_refl, cond_true] at hk
        have hk' : out.take ((S.setX q.o (iterOf q D' cur')).touch []).objs.length S' (fun z => some (Sum.inr z)) = some x := by rw [hlen0]; exact hk
        obtain ⟨z, hz, μ2, h5, h6⟩ := join_sound (S0 := (S.setX q.o (iterOf q D' cur')).touch []) (s := out) (ds := ds) (fit_set hfit2 (hoids D' cur') hol) hk' hs (by rw [hlen0]; exact hag.trans hag2 (fun _ h => h) hrds) rfl
        simp only [Option.some.injEq] at hz
        rw [hlen0] at h6
        have hlX : out.lay (S.setX q.o (iterOf q D' cur')) ds z = (out.lay S ds z).setX q.o (iterOf q D' cur') := lay_setX hol ho3 ho4
        have hll : q.o < (out.lay S ds z).objs.length := lay_len hol ho3 ho4
        have h5' : SR c ((out.lay S ds z).setX q.o (iterOf q D' cur')) μ2 a' w' := by rw [← hlX]; exact h5
        have h6' : Ag S.objs.length ds ((S.setX q.o (iterOf q D' cur')).touch []) μ ((out.lay S ds z).setX q.o (iterOf q D' cur')) μ2 := by rw [← hlX]; exact h6
        have hal : (((out.lay S ds z).setX q.o (iterOf q D' cur')).ob q.o).alive = true := by rw [setX_ob hll, upd_same]; rfl
        have hal2 : ((out.lay S ds z).ob q.o).alive = true := by rw [lay_ob out S ds z hol ho3 ho4, hit]; rfl
        have hrob : (S.ranged out ds q.o z).ob = upd (out.lay S ds z).ob q.o .dead := ob_setOb _ _ _ hal2
        show Q (.exit j) a' w'
        refine hfin z μ2 a' w' (hinr z hz.symm) ((h5'.kill hal).congr rfl ?_) ?_
        · rw [hrob, ob_setOb _ _ _ hal, setX_ob hll]
          funext i
          by_cases e : i = q.o
          · subst e; rw [upd_same, upd_same]
          · rw [upd_other _ _ e, upd_other _ _ e, upd_other _ _ e]
        · refine ⟨h6'.len, h6'.slot, ?_, fun i hi => ?_, fun i hi => by simp [St.ranged, St.touch, hi], fun i hi => ?_⟩
          · have := h6'.olen
            simp only [St.setX, List.length_set] at this
            simp only [St.ranged, St.touch, St.setOb, List.length_set]
            omega
          · by_cases e : i = q.o
            · subst e; right; simp [St.ranged, St.touch]
            · have := h6'.ob i (by omega)
              rw [hXob, setX_ob hll, upd_other _ _ e, upd_other _ _ e] at this
              rw [hrob, upd_other _ _ e]
              refine this.imp (fun h => h) fun h => ?_
              simp only [St.setX, SSh.lay, List.mem_append] at h
              simp only [St.ranged, St.touch, List.mem_cons, List.mem_append]
              right; left; exact h
          · have := h6'.later i (by omega)
            rw [hXob, setX_ob hll] at this
            rw [hrob]
            unfold Later at this ⊢
            by_cases e : i = q.o
            · subst e; rw [upd_same]; trivial
            · rw [upd_other _ _ e] at this ⊢
              rw [upd_other _ _ e] at this
              exact this
      · have : Nat.beq j ex = false := by rw [← Bool.not_eq_true]; simpa using e
        simp only [rangeKt, this, cond_false] at hk
        cases hk
  intro k
  induction k with
  | zero =>
    intro R D y μ1 a w hk hperm hgood hsr hag
    have hR : R = [] := List.length_eq_zero_iff.1 hk
    subst hR
    rw [rounds_succ]
    have hlob : (hd.lay (S.setX q.o (iterOf q D none)) ds y).ob = upd (hd.lay S ds y).ob q.o (iterOf q D none) := by rw [hlayX, setX_ob (hlayl y)]
    have hslots : (hd.lay (S.setX q.o (iterOf q D none)) ds y).slots.getD ti .undef = .it q.o := by
      have := hag.slot ti htd
      simp only [List.getD, this]
      exact hti
    refine wp_seq (step_sound (o := q.o) (m := q.m) (T := q.K) (U := q.V) (since := q.since) (cc := cc) (D := D) (R := []) hsr hops hslots (by rw [hlob, upd_same]; rfl) ?_ (by rw [← hes]; exact hperm) ?_ (fun _ a' w' hs => ?_) (fun e R' he => ?_))
    · rw [hlob, upd_other _ _ (fun e => hom e.symm), lay_ob hd S ds y hml hm1 hm2]; exact hmap
    · rw [hag.len]; exact htn
    · have hgd := hgood [] (List.Perm.refl _)
      obtain ⟨z, hz⟩ := hsome _ hgd
      rw [hz] at hgd
      simp only [rangeM] at hz
      obtain ⟨x, hx, hz⟩ := Option.bind_eq_some_iff.1 hz
      refine hbody D none _ x μ1 a' w' _ hx hs (hputAg hag) (fun y' e => ?_) (fun z' e => ?_)
      · subst e; cases hz
      · subst e
        simp only [Option.some.injEq] at hz
        subst hz
        exact hgd
    · exact absurd he.length_eq (by simp)
  | succ k ih =>
    intro R D y μ1 a w hk hperm hgood hsr hag
    rw [rounds_succ]
    have hlob : (hd.lay (S.setX q.o (iterOf q D none)) ds y).ob = upd (hd.lay S ds y).ob q.o (iterOf q D none) := by rw [hlayX, setX_ob (hlayl y)]
    have hslots : (hd.lay (S.setX q.o (iterOf q D none)) ds y).slots.getD ti .undef = .it q.o := by
      have := hag.slot ti htd
      simp only [List.getD, this]
      exact hti
    refine wp_seq (step_sound (o := q.o) (m := q.m) (T := q.K) (U := q.V) (since := q.since) (cc := cc) (D := D) (R := R) hsr hops hslots (by rw [hlob, upd_same]; rfl) ?_ (by rw [← hes]; exact hperm) ?_ (fun hR a' w' hs => ?_) (fun e R' he a' w' hs => ?_))
    · rw [hlob, upd_other _ _ (fun e => hom e.symm), lay_ob hd S ds y hml hm1 hm2]; exact hmap
    · rw [hag.len]; exact htn
    · rw [hR] at hk; simp at hk
    · have hkr : R'.length = k := by have := he.length_eq; simp at this; omega
      have hgd := hgood (e :: R') he.symm
      obtain ⟨z, hz⟩ := hsome _ hgd
      rw [hz] at hgd
      simp only [rangeM] at hz
      obtain ⟨x, hx, hz⟩ := Option.bind_eq_some_iff.1 hz
      have hse : SR c (S.round hd ds tn tm q D e y) μ1 a' w' := by
        refine hs.congr ?_ ?_
        · show ((((hd.lay (S.setX q.o _) ds y).put _ _).put _ _).slots) = _
          rw [hlayX, hlayX]
          rfl
        · show ((((hd.lay (S.setX q.o _) ds y).put _ _).put _ _).ob) = _
          rw [put_ob, put_ob, put_ob, put_ob, hlayX, setX_ob (hlayl y)]
          rw [ob_setOb _ _ _ (by rw [hlob, upd_same]; rfl), hlob]
          funext i
          by_cases e' : i = q.o
          · subst e'; rw [upd_same, upd_same]
          · rw [upd_other _ _ e', upd_other _ _ e', upd_other _ _ e']
      have hage : Ag S.objs.length ds ((S.setX q.o (iterOf q (D ++ [e]) (some (e.1, e.2.1)))).touch []) μ (S.round hd ds tn tm q D e y) μ1 := by
        refine hputAg ?_
        show Ag _ _ _ _ (hd.lay (S.setX q.o (iterOf q (D ++ [e]) (some (e.1, e.2.1)))) ds y) _
        rw [hlayX] at hag ⊢
        exact Ag.setX (S := S.touch []) (T := hd.lay S ds y) (q := q) hol (hlayl y) hol hag
      refine hbody (D ++ [e]) (some (e.1, e.2.1)) _ x μ1 a' w' _ hx hse hage (fun y' ex' μ2 a2 w2 h5 h6 => ?_) (fun z' e' => ?_)
      · subst ex'
        refine ih R' (D ++ [e]) y' μ2 a2 w2 hkr ?_ (fun l hl => ?_) h5 h6
        · rw [List.append_assoc, List.singleton_append]
          exact (he.symm.append_left D).trans hperm
        · have := hgood (e :: l) ((hl.cons e).trans he.symm)
          simp only [rangeM, hx, Option.bind_some] at this
          exact this
      · subst e'
        simp only [Option.some.injEq] at hz
        subst hz
        exact hgd
theorem anyOrder_some {α τ : Type} {es : List α} {F : List α → Option τ} {z : τ} (h : anyOrder es F = some z) : ∀ l, l.Perm es → F l = some z := by
  unfold anyOrder at h
  split at h
  · rename_i hall
    exact fun l hl => (hall l hl).trans h
  · cases h
theorem rangeOf_some {ti tn tm : Nat} {s rest : Code} (h : rangeOf (.seq s rest) = some (ti, tn, tm)) : ∃ id ops, s = .region id ops false ∧ rangeOps ops.toList = some (ti, tn, tm) := by
  unfold rangeOf at h
  simp only at h
  split at h
  · rename_i id ops draw
    cases draw with
    | true => simp only [cond_true] at h; cases h
    | false => exact ⟨id, ops, rfl, by simpa only [cond_false] using h⟩
  · cases h
theorem range_start {hd out : SSh} {ti tn : Nat} {ds : List Nat} {S : St} {q : RangeAt} (hq : rangeAt S ti = some q) (hrf : rangeFit hd out S ds ti tn q.o q.m = true) {μ μ1 : Nat → Value} {a : Act} {w : World} {y : hd.den}
    (hsr : SR c (hd.lay (S.touch []) ds y) μ1 a w) (hag : Ag S.objs.length ds (S.touch []) μ (hd.lay (S.touch []) ds y) μ1) :
    SR c (hd.lay (S.setX q.o (iterOf q [] none)) ds y) μ1 a w ∧ Ag S.objs.length ds ((S.setX q.o (iterOf q [] none)).touch []) μ (hd.lay (S.setX q.o (iterOf q [] none)) ds y) μ1 := by
  obtain ⟨hti, ⟨cur0, hit⟩, cc, hmap, hes⟩ := rangeAt_some hq
  have hol : q.o < S.objs.length := alive_lt (by rw [hit]; rfl)
  simp only [rangeFit, Bool.and_eq_true, Bool.not_eq_true', ← Bool.not_eq_true, mem_iff, disj_iff, Nat.beq_eq] at hrf
  obtain ⟨htn, htd, hd1, hd2, hom⟩ := hrf
  have ho1 : q.o ∉ hd.gone := fun h => hd1 q.o (by simp) (List.mem_append_left _ h)
  have ho2 : q.o ∉ hd.objs.map (·.1) := fun h => hd1 q.o (by simp) (List.mem_append_right _ h)
  have hll : q.o < (hd.lay S ds y).objs.length := lay_len hol ho1 ho2
  have hlX : hd.lay (S.setX q.o (iterOf q [] none)) ds y = (hd.lay S ds y).setX q.o (iterOf q [] none) := lay_setX hol ho1 ho2
  have hob0 : (hd.lay S ds y).ob q.o = iterOf q [] cur0 := by rw [lay_ob hd S ds y hol ho1 ho2]; exact hit
  have hs : SR c (hd.lay S ds y) μ1 a w := hsr
  have ha : Ag S.objs.length ds (S.touch []) μ (hd.lay S ds y) μ1 := hag
  rw [hlX]
  refine ⟨hs.uncur hob0, ⟨ha.len, ha.slot, by simpa [St.setX] using ha.olen, fun i hi => ?_, ha.touched, fun i hi => ?_⟩⟩
  · rw [setX_ob hll]
    show _ = ((S.setX q.o (iterOf q [] none)).ob i) ∨ _
    rw [setX_ob hol]
    by_cases e : i = q.o
    · subst e; left; rw [upd_same, upd_same]
    · rw [upd_other _ _ e, upd_other _ _ e]; exact ha.ob i hi
  · have := ha.later i hi
    show Later (S.setX q.o (iterOf q [] none)).ob μ _ μ1 i
    rw [setX_ob hll, setX_ob hol]
    have h0 : (S.touch []).ob = S.ob := rfl
    rw [h0] at this
    unfold Later at this ⊢
    by_cases e : i = q.o
    · subst e
      rw [hob0] at this
      rw [upd_same]
      simp only [iterOf] at this ⊢
      rw [upd_same]
      exact ⟨⟨_, _, _, _, rfl⟩, this.2⟩
    · rw [upd_other _ _ e]
      rw [upd_other _ _ e]
      exact this
/-- THE EVALUATOR IS RIGHT. -/
theorem ev_sound (hE : EnvC P E c) (hm : P.follows .mixedOrders = true) {k : Nat} : ∀ (code : Code) (i : Nat) {σ : Type} (S : St) (K : Kt σ) (r : σ) (μ : Nat → Value) (a : Act) (w : World) (n : Nat) (Q : Exit → Act → World → Prop),
    ev E H k code i S K = some r → SR c S μ a w → n ≤ S.objs.length → Post c K r n (dsts code) S μ Q → code.wp P Q a w
  | .skip, i, σ, S, K, r, μ, a, w, n, Q, h, hsr, hn, hp => wp_skip (hp.n S μ a w h hsr (Ag.refl _ hn))
  | .ret, i, σ, S, K, r, μ, a, w, n, Q, h, hsr, hn, hp => wp_ret (hp.r S μ a w h hsr (Ag.refl _ hn))
  | .exit id, i, σ, S, K, r, μ, a, w, n, Q, h, hsr, hn, hp => wp_exit (hp.x id S μ a w h hsr (Ag.refl _ hn))
  | .region id ops draw, i, σ, S, K, r, μ, a, w, n, Q, h, hsr, hn, hp => by
    refine meet_sound (ds := dstsOps ops.toList) (S := S) (n := n) ?_ h hsr hn hp
    intro τ S1 K r μ a w n Q _ _ h hsr hn hp
    exact region_sound hE hm h hsr (fun o ho t ht => dstsOps_mem ho ht) hn (fun S' μ' a' w' h1 h2 h3 => hp.n S' μ' a' w' h1 h2 h3)
  | .seq x y, i, σ, S, K, r, μ, a, w, n, Q, h, hsr, hn, hp => by
    refine wp_seq (ev_sound hE hm x i S _ r μ a w n _ h hsr hn ⟨fun S' μ' a' w' hk hs hag => ?_, fun j S' μ' a' w' hk hs hag => ?_, fun S' μ' a' w' hk hs hag => ?_⟩)
    · have cov : ∀ {S2 : St} {μ2 : Nat → Value}, Ag n (dsts y) S' μ' S2 μ2 → Ag n (dsts (.seq x y)) S μ S2 μ2 := fun h => hag.trans h (fun t ht => by simp [dsts, ht]) (fun t ht => by simp [dsts, ht])
      exact ev_sound hE hm y i S' K r μ' a' w' n Q hk hs hag.olen ⟨fun S2 μ2 a2 w2 h1 h2 h3 => hp.n S2 μ2 a2 w2 h1 h2 (cov h3), fun j S2 μ2 a2 w2 h1 h2 h3 => hp.x j S2 μ2 a2 w2 h1 h2 (cov h3), fun S2 μ2 a2 w2 h1 h2 h3 => hp.r S2 μ2 a2 w2 h1 h2 (cov h3)⟩
    · exact hp.x j S' μ' a' w' hk hs (hag.mono (fun t ht => by simp [dsts, ht]))
    · exact hp.r S' μ' a' w' hk hs (hag.mono (fun t ht => by simp [dsts, ht]))
  | .cond q x y, i, σ, S, K, r, μ, a, w, n, Q, h, hsr, hn, hp => by
    simp only [ev] at h
    split at h
    · rename_i t
      split at h
      · rename_i v hv
        refine meet_sound (ds := dsts (.cond (.tmp t) x y)) (S := S) (n := n) ?_ (by simpa only [dsts, List.singleton_append, List.cons_append, List.nil_append] using h) hsr hn hp
        intro τ S1 K r μ a w n Q e1 e2 h hsr hn hp
        have hv1 : S1.slots.getD t .undef = .bool v := by rw [e1]; exact hv
        have hev : a.eval (.tmp t) = .bool v := by
          have := hsr.slots.opd (.tmp t)
          simp only [opd, hv1] at this
          exact this.bool
        refine wp_cond_split hev (fun ht => ?_) (fun hf => ?_)
        · subst ht
          simp only [cond_true] at h
          rw [set_same hv1] at h
          exact ev_sound hE hm x i S1 K r μ a w n Q h hsr hn ⟨fun S2 μ2 a2 w2 h1 h2 h3 => hp.n S2 μ2 a2 w2 h1 h2 (h3.mono (fun t ht => by simp [dsts, ht])), fun j S2 μ2 a2 w2 h1 h2 h3 => hp.x j S2 μ2 a2 w2 h1 h2 (h3.mono (fun t ht => by simp [dsts, ht])), fun S2 μ2 a2 w2 h1 h2 h3 => hp.r S2 μ2 a2 w2 h1 h2 (h3.mono (fun t ht => by simp [dsts, ht]))⟩
        · subst hf
          simp only [cond_false] at h
          rw [set_same hv1] at h
          exact ev_sound hE hm y i S1 K r μ a w n Q h hsr hn ⟨fun S2 μ2 a2 w2 h1 h2 h3 => hp.n S2 μ2 a2 w2 h1 h2 (h3.mono (fun t ht => by simp [dsts, ht])), fun j S2 μ2 a2 w2 h1 h2 h3 => hp.x j S2 μ2 a2 w2 h1 h2 (h3.mono (fun t ht => by simp [dsts, ht])), fun S2 μ2 a2 w2 h1 h2 h3 => hp.r S2 μ2 a2 w2 h1 h2 (h3.mono (fun t ht => by simp [dsts, ht]))⟩
      · cases h
    · rename_i q
      split at h
      · rename_i v
        refine wp_cond_split (t := v) rfl (fun ht => ?_) (fun hf => ?_)
        · subst ht
          simp only [cond_true] at h
          exact ev_sound hE hm x i S K r μ a w n Q h hsr hn ⟨fun S2 μ2 a2 w2 h1 h2 h3 => hp.n S2 μ2 a2 w2 h1 h2 (h3.mono (fun t ht => by simp [dsts, ht])), fun j S2 μ2 a2 w2 h1 h2 h3 => hp.x j S2 μ2 a2 w2 h1 h2 (h3.mono (fun t ht => by simp [dsts, ht])), fun S2 μ2 a2 w2 h1 h2 h3 => hp.r S2 μ2 a2 w2 h1 h2 (h3.mono (fun t ht => by simp [dsts, ht]))⟩
        · subst hf
          simp only [cond_false] at h
          exact ev_sound hE hm y i S K r μ a w n Q h hsr hn ⟨fun S2 μ2 a2 w2 h1 h2 h3 => hp.n S2 μ2 a2 w2 h1 h2 (h3.mono (fun t ht => by simp [dsts, ht])), fun j S2 μ2 a2 w2 h1 h2 h3 => hp.x j S2 μ2 a2 w2 h1 h2 (h3.mono (fun t ht => by simp [dsts, ht])), fun S2 μ2 a2 w2 h1 h2 h3 => hp.r S2 μ2 a2 w2 h1 h2 (h3.mono (fun t ht => by simp [dsts, ht]))⟩
      · cases h
    · cases h
  | .block id x, i, σ, S, K, r, μ, a, w, n, Q, h, hsr, hn, hp => by
    refine meet_sound (ds := dsts x) (S := S) (n := n) ?_ h hsr hn hp
    intro τ S1 K2 r2 μ a w n Q _ _ h hsr hn hp2
    refine wp_block (ev_sound hE hm x id S1 _ r2 μ a w n _ h hsr hn ⟨fun S2 μ2 a2 w2 h1 h2 h3 => hp2.n S2 μ2 a2 w2 h1 h2 h3, fun j S2 μ2 a2 w2 h1 h2 h3 => ?_, fun S2 μ2 a2 w2 h1 h2 h3 => hp2.r S2 μ2 a2 w2 h1 h2 h3⟩)
    simp only [Exit.inBlock]
    by_cases e : j = id
    · subst e
      simp only [Nat.beq_refl, cond_true] at h1
      rw [if_pos rfl]
      exact hp2.n S2 μ2 a2 w2 h1 h2 h3
    · have : Nat.beq j id = false := by rw [← Bool.not_eq_true]; simpa using e
      simp only [this, cond_false] at h1
      rw [if_neg e]
      exact hp2.x j S2 μ2 a2 w2 h1 h2 h3
  | .loop x, i, σ, S, K, r, μ, a, w, n, Q, h, hsr, hn, hp => by
    simp only [ev] at h
    split at h
    · refine wp_loop_rounds k ?_
      have hkey : ∀ (m : Nat) (S' : St) (μ' : Nat → Value) (a : Act) (w : World), unroll m (fun S n => ev E H k x i S { K with n := n }) S' = some r → SR c S' μ' a w → Ag n (dsts x) S μ S' μ' → Code.rounds P x Q m a w := by
        intro m
        induction m with
        | zero => intro S' μ' a w h; simp [unroll] at h
        | succ m ih =>
          intro S' μ' a w h hs hag
          simp only [unroll] at h
          rw [rounds_succ]
          exact ev_sound hE hm x i S' _ r μ' a w n _ h hs hag.olen ⟨fun S2 μ2 a2 w2 h1 h2 h3 => ih S2 μ2 a2 w2 h1 h2 (hag.trans h3 (fun _ h => h) (fun _ h => h)), fun j S2 μ2 a2 w2 h1 h2 h3 => hp.x j S2 μ2 a2 w2 h1 h2 (hag.trans h3 (fun _ h => h) (fun _ h => h)), fun S2 μ2 a2 w2 h1 h2 h3 => hp.r S2 μ2 a2 w2 h1 h2 (hag.trans h3 (fun _ h => h) (fun _ h => h))⟩
      exact hkey k S μ a w h hsr (Ag.refl _ hn)
    · rename_i hd ex out hH
      split at h
      · rename_i ti tn tm hro
        split at h
        · rename_i s rest
          split at h
          · rename_i q hq
            obtain ⟨hfit, h⟩ := cond_some h
            simp only [Bool.and_eq_true] at hfit
            obtain ⟨⟨hfit1, hfit2⟩, hrf⟩ := hfit
            obtain ⟨id, ops, rfl, hops⟩ := rangeOf_some hro
            have hS0 : Ag S.objs.length (dsts (.seq (.region id ops false) rest)) (S.touch []) μ (S.touch []) μ := Ag.refl _ (Nat.le_refl _)
            obtain ⟨y0, h, μ1, hsr1, hag1⟩ := join_sound (S0 := S.touch []) (s := hd) (ds := dsts (.seq (.region id ops false) rest)) hfit1 h (hsr.touch []) hS0 rfl
            obtain ⟨z0, hz0, h⟩ := Option.bind_eq_some_iff.1 h
            have hall := anyOrder_some hz0
            refine wp_loop_rounds (q.es.length + 1) ?_
            obtain ⟨hs1, hs2⟩ := range_start (ds := dsts (.seq (.region id ops false) rest)) hq hrf hsr1 hag1
            refine range_loop (P := P) (c := c) rfl hops hq hfit1 hfit2 hrf (go := fun S K => ev E H k rest i S K) (fun S K r μ a w n Q h hs hn hp => ev_sound hE hm rest i S K r μ a w n Q h hs hn hp) hn (Good := fun x => x = some z0) (fun x hx => ⟨z0, hx⟩)
              (fun z μ' a' w' hg hs hag => ?_) q.es.length q.es [] y0 μ1 a w rfl (by simp) (fun l hl => hall l hl) hs1 hs2
            simp only [Option.some.injEq] at hg
            subst hg
            exact hp.x ex _ μ' a' w' h hs hag
          · cases h
        · cases h
      obtain ⟨hfit, h⟩ := cond_some h
      simp only [Bool.and_eq_true] at hfit
      obtain ⟨hfit1, hfit2⟩ := hfit
      have hS0 : Ag S.objs.length (dsts x) (S.touch []) μ (S.touch []) μ := Ag.refl _ (Nat.le_refl _)
      obtain ⟨y0, h, μ1, hsr1, hag1⟩ := join_sound (S0 := S.touch []) (s := hd) (ds := dsts x) hfit1 h (hsr.touch []) hS0 rfl
      obtain ⟨r1, h1, h2⟩ := Option.bind_eq_some_iff.1 h
      refine wp_loop_rounds k ?_
      have hkey : ∀ (k' : Nat) (y : hd.den) (μ1 : Nat → Value) (a : Act) (w : World), iter (τ := σ ⊕ out.den) k' (fun y =>
            ev E H k x i (σ := hd.den ⊕ (σ ⊕ out.den)) (hd.lay S (dsts x) y)
              { n := fun S' => hd.take S.objs.length S' fun y => some (.inl y)
                x := fun j S' => cond (Nat.beq j ex) (out.take S.objs.length S' fun z => some (.inr (.inr z))) none
                r := fun S' => (K.r (S'.touch (S'.touched ++ S.touched))).map fun z => .inr (.inl z) }) y = some r1 →
          SR c (hd.lay S (dsts x) y) μ1 a w → Ag S.objs.length (dsts x) (S.touch []) μ (hd.lay S (dsts x) y) μ1 → Code.rounds P x Q k' a w := by
        intro k'
        induction k' with
        | zero => intro y μ1 a w h; simp [iter] at h
        | succ k' ih =>
          intro y μ1 a w h hsr1 hag1
          simp only [iter] at h
          obtain ⟨r2, h3, h4⟩ := Option.bind_eq_some_iff.1 h
          rw [rounds_succ]
          refine ev_sound hE hm x i _ _ r2 μ1 a w S.objs.length _ h3 hsr1 hag1.olen ⟨fun S' μ' a' w' hk hs hag => ?_, fun j S' μ' a' w' hk hs hag => ?_, fun S' μ' a' w' hk hs hag => ?_⟩
          · have hk' : hd.take (S.touch []).objs.length S' (fun y => some (Sum.inl y)) = some r2 := hk
            obtain ⟨y2, hy, μ2, h5, h6⟩ := join_sound (S0 := S.touch []) (s := hd) (ds := dsts x) hfit1 hk' hs (hag1.trans hag (fun _ h => h) (fun _ h => h)) rfl
            simp only [Option.some.injEq] at hy
            subst hy
            simp only at h4
            exact ih y2 μ2 a' w' h4 h5 h6
          · by_cases e : j = ex
            · subst e
              simp only [Nat.beq_refl, cond_true] at hk
              have hk' : out.take (S.touch []).objs.length S' (fun z => some (Sum.inr (Sum.inr z))) = some r2 := hk
              obtain ⟨y2, hy, μ2, h5, h6⟩ := join_sound (S0 := S.touch []) (s := out) (ds := dsts x) hfit2 hk' hs (hag1.trans hag (fun _ h => h) (fun _ h => h)) rfl
              simp only [Option.some.injEq] at hy
              subst hy
              simp only [Option.some.injEq] at h4
              subst h4
              simp only at h2
              exact hp.x j _ μ2 a' w' h2 (h5.touch _) (Ag.less (h6.touch _ (fun i hi => by simp only [List.mem_append]; left; simpa [SSh.lay] using hi) (fun i hi => by simp [hi])) hn)
            · have : Nat.beq j ex = false := by rw [← Bool.not_eq_true]; simpa using e
              simp only [this, cond_false] at hk
              cases hk
          · obtain ⟨z, hz, hz2⟩ := Option.map_eq_some_iff.1 hk
            subst hz2
            simp only [Option.some.injEq] at h4
            subst h4
            simp only [Option.some.injEq] at h2
            subst h2
            exact hp.r _ μ' a' w' hz (hs.touch _) (Ag.less ((hag1.trans hag (fun _ h => h) (fun _ h => h)).touch _ (fun i hi => by simp [hi]) (fun i hi => by simp [hi])) hn)
      exact hkey k y0 μ1 a w h1 hsr1 hag1
end
end Go.Vm

/- Vm, part 22: functions. Own work. -/
set_option linter.unusedVariables false
set_option linter.unusedSimpArgs false
set_option linter.unusedSectionVars false
namespace Go.Vm
variable [MonotC]
open Go.RowKit
section
variable {ρ : Type}
/-- the results of a function -/
def retL (E : Env) (S : St) : List ResultVar → Option (List PV)
  | [] => some []
  | .tmp t :: l => (retL E S l).bind fun vs => some (S.slots.getD t .undef :: vs)
  | .cell a t :: l => match E.td t with
    | some d => match S.slots.getD a .undef with
      | .ptr ob p => match S.ob ob with
        | .box _ v => cond (d.fits (getPath v p)) ((retL E S l).bind fun vs => some (getPath v p :: vs)) none
        | _ => none
      | _ => none
    | none => none
def retK (E : Env) (S : St) (rs : List ResultVar) (K : PV → List OB → Option ρ) : Option ρ :=
  match retL E S rs with
  | some [v] => K v S.objs
  | some vs => K (.tup vs) S.objs
  | none => none
/-- a function, from its arguments and the objects that they lead to -/
noncomputable def evFun (E : Env) (H : Hints) (k : Nat) (code : Code) (nt : Nat) (rs : List ResultVar) (args : List PV) (objs : List OB) (K : PV → List OB → Option ρ) : Option ρ :=
  ev { E with give := objs.isEmpty } H k code 0 { slots := args ++ List.replicate (nt - args.length) .undef, objs := objs, touched := [] }
    { n := fun S => retK E S rs K, x := fun _ _ => none, r := fun S => retK E S rs K }
/-- functions by number -/
def calls : List (Nat × FSem) → Nat → FSem
  | [], _ => .never
  | p :: l, f => cond (Nat.beq p.1 f) p.2 (calls l f)
theorem calls_sound {P : Program} : ∀ (l : List (Nat × FSem)), (∀ p ∈ l, SoundF P p.1 p.2) → ∀ f, SoundF P f (calls l f)
  | [], _, f => SoundF.never P f
  | p :: l, h, f => by
    simp only [calls]
    by_cases e : p.1 = f
    · subst e
      simp only [Nat.beq_refl, cond_true]
      exact h p (by simp)
    · have : Nat.beq p.1 f = false := by rw [← Bool.not_eq_true]; simpa using e
      rw [this]
      exact calls_sound l (fun q hq => h q (by simp [hq])) f
end
section
variable {P : Program} {E : Env} {c : Cx} {S : St} {μ : Nat → Value} {a : Act} {w : World}
def retV (tmps : Array Value) : ResultVar → Sem Value
  | .tmp t => pure (tmps.getD t undef)
  | .cell a t => do loadVar t (← asAddr (tmps.getD a undef))
theorem retL_sound (hE : EnvTy P E) (hsr : SR c S μ a w) : ∀ (rs : List ResultVar) (vs : List PV), retL E S rs = some vs → ∃ xs : List Value, (rs.mapM (retV a.tmps)).run P w = .ok xs w ∧ TRs w (av c S.ob μ) S.ob μ vs xs
  | [], vs, h => by
    simp only [retL, Option.some.injEq] at h
    subst h
    exact ⟨[], by simp, by simp only [TRs]⟩
  | .tmp t :: l, vs, h => by
    simp only [retL] at h
    obtain ⟨us, h1, h2⟩ := Option.bind_eq_some_iff.1 h
    cases h2
    obtain ⟨xs, h3, h4⟩ := retL_sound hE hsr l us h1
    refine ⟨a.tmps.getD t undef :: xs, ?_, ?_⟩
    · simp [List.mapM_cons, retV, h3, Result.andThen]
    · simp only [TRs]
      exact ⟨_, _, rfl, hsr.slots.opd (.tmp t), h4⟩
  | .cell x t :: l, vs, h => by
    simp only [retL] at h
    split at h
    · rename_i d hd
      have hd' := hE _ _ hd
      have hv := hsr.slots.opd (.tmp x)
      simp only [opd, Act.eval] at hv
      split at h
      · rename_i ob p hx
        rw [hx] at hv
        split at h
        · rename_i d0 v hob
          obtain ⟨hfit, h⟩ := cond_some h
          obtain ⟨us, h1, h2⟩ := Option.bind_eq_some_iff.1 h
          cases h2
          obtain ⟨xs, h3, h4⟩ := retL_sound hE hsr l us h1
          obtain ⟨b, off, d', hm, hoff, e⟩ := hv.ptr hob
          have hor := hsr.objs.each ob
          simp only [OR, hob] at hor
          obtain ⟨b', cs, tt, hm', hheap, hfits, hcr, _⟩ := hor
          rw [hm] at hm'
          simp only [Value.pointer.injEq, Option.some.injEq, Addr.mk.injEq] at hm'
          obtain ⟨rfl, _, _⟩ := hm'
          obtain ⟨g1, g2, g3, _⟩ := TD.path_sound _ _ _ _ _ _ hfits hcr hoff
          have hl := TD.fits_len _ _ _ hfits hcr
          have hlen := TD.fits_len _ _ _ hfit g1
          have hlie : LiesAt w b off ((cs.toList.drop off).take d'.cells) := fun j v hj => by
            rw [List.getElem?_take] at hj
            split at hj
            · rw [List.getElem?_drop] at hj
              simp only [World.cell?, hheap]
              simpa using hj
            · cases hj
          refine ⟨wrapV d.isAgg ((cs.toList.drop off).take d'.cells) :: xs, ?_, ?_⟩
          · have hload := run_loadVar' (P := P) (w := w) hd' hlie hlen
            simp only [List.mapM_cons, retV, Sem.run_bind, e, asAddr, Sem.run_pure, Result.andThen, hload, h3]
          · simp only [TRs]
            exact ⟨_, _, rfl, VR.of_cells g1 (TD.fits_agg hfit), h4⟩
        · cases h
      · cases h
    · cases h
theorem TRs.len {w : World} {A : Nat → Prop} {ob : Nat → OB} {μ : Nat → Value} : ∀ {l : List PV} {vs : List Value}, TRs w A ob μ l vs → vs.length = l.length
  | [], vs, h => by simp only [TRs] at h; subst h; rfl
  | v :: l, vs, h => by
    simp only [TRs] at h
    obtain ⟨x, r, rfl, _, h⟩ := h
    simp [TRs.len h]
theorem TRs.each {w : World} {A : Nat → Prop} {ob : Nat → OB} {μ : Nat → Value} : ∀ {l : List PV} {vs : List Value}, TRs w A ob μ l vs → ∀ (t : Nat) (v : PV), l[t]? = some v → ∃ x : Value, vs[t]? = some x ∧ VR w A ob μ v x
  | [], vs, h, t, v, hv => by simp at hv
  | u :: l, vs, h, 0, v, hv => by
    simp only [TRs] at h
    obtain ⟨x, r, rfl, h1, h⟩ := h
    simp only [List.getElem?_cons_zero, Option.some.injEq] at hv
    subst hv
    exact ⟨x, rfl, h1⟩
  | u :: l, vs, h, t + 1, v, hv => by
    simp only [TRs] at h
    obtain ⟨x, r, rfl, h1, h⟩ := h
    simp only [List.getElem?_cons_succ] at hv ⊢
    exact TRs.each h t v hv
theorem results_eq (fn : Func) (tmps : Array Value) : results fn tmps = (do let vs ← fn.results.mapM (retV tmps); pure (if h : vs.size = 1 then vs[0] else .tuple vs)) := rfl
/-- what a function's call does, whatever reads its code -/
theorem calls_ev {ρ : Type} (hE : EnvTy P E) {f : FuncId} {fn : Func} {code : Code} {nt : Nat} {rs : List ResultVar} (hf : P.funcs[f]? = some fn) (hb : fn.body = some code) (hnt : fn.ntmps = nt) (hrs : fn.results.toList = rs) {evx : St → Kt ρ → Option ρ}
    {objs : List OB} (hev : ∀ (c : Cx), (∀ b, c.M0 b → objs ≠ []) → ∀ (S : St) (K : Kt ρ) (r : ρ) (μ : Nat → Value) (a : Act) (w : World) (n : Nat) (Q : Exit → Act → World → Prop), evx S K = some r → SR c S μ a w → n ≤ S.objs.length → Post c K r n (dsts code) S μ Q → code.wp P Q a w)
    {args : List PV} {K : PV → List OB → Option ρ} {r : ρ} (hk : evx { slots := args ++ List.replicate (nt - args.length) .undef, objs := objs, touched := [] } { n := fun S => retK E S rs K, x := fun _ _ => none, r := fun S => retK E S rs K } = some r)
    (w : World) (A : Nat → Prop) (μ : Nat → Value) (vals : List Value) (hO : Objs w A (obs objs) μ) (hargs : TRs w A (obs objs) μ args vals) :
    Calls P f vals.toArray w fun e w' => ∃ v res objs' μ', e = .returned v ∧ K res objs' = some r ∧ CallPost w w' A objs μ objs' μ' res v := by
  · have hc : ∃ c : Cx, c.w0 = w ∧ c.A0 = A ∧ c.M0 = own (obs objs) μ := ⟨⟨w, A, own (obs objs) μ, hO.old, hO.mine⟩, rfl, rfl, rfl⟩
    obtain ⟨c, hw0, hA0, hM0⟩ := hc
    refine calls_of_wp hf hb ?_
    generalize hS : ({ slots := args ++ List.replicate (nt - args.length) .undef, objs := objs, touched := [] } : St) = S
    have hob : S.ob = obs objs := by subst hS; rfl
    have hSo : S.objs = objs := by subst hS; rfl
    have hav : ∀ b, av c S.ob μ b → A b := fun b hb => by
      rcases hb with hb | hb
      · rw [hA0] at hb; exact hb
      · rw [hob] at hb; exact hO.mine b hb
    have hsz := hargs.len
    have hsr : SR c S μ { tmps := vals.toArray ++ Array.replicate (fn.ntmps - vals.toArray.size) undef, defers := [] } w := by
      refine ⟨rfl, ⟨?_, fun t v ht => ?_⟩, ?_, by rw [hw0]; exact Keep.refl _ w, fun b hb => .inl (by rw [hM0, ← hob]; exact hb)⟩
      · subst hS; simp [hnt, hsz]
      · subst hS
        simp only at ht
        rw [List.getElem?_append] at ht
        split at ht
        · rename_i hlt
          obtain ⟨x, hx, hv⟩ := hargs.each t v ht
          have : (vals.toArray ++ Array.replicate (fn.ntmps - vals.toArray.size) undef).getD t undef = x := by
            rw [Array.getD_eq_getD_getElem?, Array.getElem?_append_left (by simp; omega)]
            simp [hx]
          show VR w _ _ _ v ((vals.toArray ++ Array.replicate (fn.ntmps - vals.toArray.size) undef).getD t undef)
          rw [this]
          exact VR.later (Keep.refl None w) (fun b _ hb => hav b hb) (fun _ h => h.elim) (fun o _ => by rw [hob]; exact Later.refl _ _ o) hv
        · rename_i hge
          rw [List.getElem?_replicate] at ht
          split at ht
          · simp only [Option.some.injEq] at ht
            subst ht
            have : (vals.toArray ++ Array.replicate (fn.ntmps - vals.toArray.size) undef).getD t undef = undef := by
              rw [Array.getD_eq_getD_getElem?, Array.getElem?_append_right (by simp; omega), Array.getElem?_replicate]
              split <;> rfl
            show VR w _ _ _ _ ((vals.toArray ++ Array.replicate (fn.ntmps - vals.toArray.size) undef).getD t undef)
            rw [this]
            exact .mk_undef
          · cases ht
      · rw [hob]
        exact ⟨fun o => (hO.each o).later (Keep.refl None w) (fun b _ hb => hav b (by rw [hob]; exact hb)) (fun _ h => h.elim) (.inl rfl) (fun _ => rfl) (fun b h1 h2 => ⟨fun h => h.elim, hO.old b (hO.mine b ⟨o, h1, h2⟩)⟩) (fun x _ => Later.refl _ _ x), hO.apart, fun b hb => .inr hb, fun b hb => hO.old b (hav b (by rw [hob]; exact hb)), fun p hp => ⟨(hO.lay p hp).1, fun a => (hO.lay p hp).2 (hav _ (by rw [hob]; exact a))⟩⟩
    rw [hS] at hk
    have hfin : ∀ S' μ' a' w', retK E S' rs K = some r → SR c S' μ' a' w' → Ag objs.length (dsts code) S μ S' μ' → a'.defers = [] ∧ ∃ v, (results fn a'.tmps).run P w' = .ok v w' ∧
        ∃ v' res objs' μ', Ending.returned v = .returned v' ∧ K res objs' = some r ∧ CallPost w w' A objs μ objs' μ' res v' := by
      intro S' μ' a' w' h1 h2 h3
      refine ⟨h2.defers, ?_⟩
      unfold retK at h1
      have hpost : ∀ (res : PV) (v : Value), VR w' (av c S'.ob μ') S'.ob μ' res v → CallPost w w' A objs μ S'.objs μ' res v := fun res v hv => by
        refine ⟨h3.olen, ?_, ?_, ?_, fun b hb => ?_, fun i hi => ?_⟩
        · have := h2.keep; rw [hM0, hw0] at this; exact this
        · have := h2.objs; unfold av at this; rw [hA0] at this; exact this
        · unfold av at hv; rw [hA0] at hv; exact hv
        · have := h2.mine b hb; rw [hM0, hw0] at this; exact this
        · have := h3.later i hi; rw [hob] at this; exact this
      have hres : ∀ vs, retL E S' rs = some vs → ∃ xs : List Value, (fn.results.mapM (retV a'.tmps)).run P w' = .ok xs.toArray w' ∧ TRs w' (av c S'.ob μ') S'.ob μ' vs xs := fun vs hvs => by
        obtain ⟨xs, g1, g2⟩ := retL_sound hE h2 rs vs hvs
        refine ⟨xs, ?_, g2⟩
        rw [Array.mapM_eq_mapM_toList, hrs, Sem.run_map, g1]
        rfl
      rw [results_eq]
      split at h1
      · rename_i v hv
        obtain ⟨xs, g1, g2⟩ := hres _ hv
        simp only [TRs] at g2
        obtain ⟨x, rest, rfl, g3, rfl⟩ := g2
        exact ⟨x, by rw [Sem.run_bind, g1]; rfl, x, v, S'.objs, μ', rfl, h1, hpost v x g3⟩
      · rename_i vs hne hv
        obtain ⟨xs, g1, g2⟩ := hres _ hv
        have hl := g2.len
        have h1x : xs.length ≠ 1 := fun e => by
          rw [e] at hl
          match vs, hl with
          | [v], _ => exact hne v rfl
        refine ⟨.tuple xs.toArray, by rw [Sem.run_bind, g1]; simp [Result.andThen, h1x], .tuple xs.toArray, .tup vs, S'.objs, μ', rfl, h1, hpost _ _ (.of_one ?_ rfl rfl)⟩
        simp only [CR]
        exact ⟨_, rfl, by simpa using g2⟩
      · cases h1
    exact hev c (fun b hb e => by
        rw [hM0] at hb
        obtain ⟨o, h1, _⟩ := hb
        have := obs_len h1
        rw [e] at this
        exact absurd this (Nat.not_lt_zero _)) S _ r μ _ w objs.length _ hk hsr (by rw [hSo]; exact Nat.le_refl _)
      ⟨fun S' μ' a' w' h1 h2 h3 => hfin S' μ' a' w' h1 h2 h3, fun j S' μ' a' w' h1 => (by cases h1), fun S' μ' a' w' h1 h2 h3 => hfin S' μ' a' w' h1 h2 h3⟩
/-- A FUNCTION IS WHAT THE EVALUATOR MAKES OF IT. -/
theorem enters_of {f : FuncId} {fn : Func} {code : Code} (hf : P.funcs[f]? = some fn) (hname : (fn.name == "runtime.NumGoroutine") = false) (hb : fn.body = some code) : Enters P f := fun args w => by
  have h1 : (callFunc f args).run P w = .ok (.enter f args) w := by
    unfold callFunc
    have hn' : ¬ fn.name = "runtime.NumGoroutine" := by simpa using hname
    simp [hf, hn', hb]
  exact h1
theorem EnvOK.giving {objs : List OB} (hE : EnvOK P E) (hc : ∀ b, c.M0 b → objs ≠ []) : EnvC P { E with give := objs.isEmpty } c :=
  ⟨⟨hE.1, hE.2⟩, fun h b hb => hc b hb (List.isEmpty_iff.1 h)⟩
theorem fun_sound (hE : EnvOK P E) (hm : P.follows .mixedOrders = true) {H : Hints} {f : FuncId} {fn : Func} {code : Code} {nt : Nat} {rs : List ResultVar} (hf : P.funcs[f]? = some fn) (hname : (fn.name == "runtime.NumGoroutine") = false) (hb : fn.body = some code) (hnt : fn.ntmps = nt) (hrs : fn.results.toList = rs) {sem : FSem}
    (hrun : ∀ {ρ : Type} (args : List PV) (objs : List OB) (K : PV → List OB → Option ρ) (r : ρ), sem.run args objs K = some r → ∃ k, evFun E H k code nt rs args objs K = some r) : SoundF P f sem := by
  intro ρ args objs K r h
  obtain ⟨k, hk⟩ := hrun args objs K r h
  exact ⟨enters_of hf hname hb, fun w A μ vals hO hargs => calls_ev hE.1 hf hb hnt hrs (evx := fun S K => ev { E with give := objs.isEmpty } H k code 0 S K) (fun c hc S K r μ a w n Q h hs hn hp => ev_sound (hE.giving hc) hm code 0 S K r μ a w n Q h hs hn hp) hk w A μ vals hO hargs⟩
end
end Go.Vm

/- Vm, part 23: types are as they are said, by a check. Own work. -/
set_option linter.unusedVariables false
set_option linter.unusedSimpArgs false
set_option linter.unusedSectionVars false
namespace Go.Vm
variable [MonotC]
open Go.RowKit
def leafZ : Value → Value → Bool
  | .int k x, .int k' y => decide (k = k') && decide (x = y)
  | .bool a, .bool b => cond a b (!b)
  | .string s, .string t => s.data.toList.isEmpty && t.data.toList.isEmpty
  | .slice none 0 0, .slice none 0 0 => true
  | .pointer none, .pointer none => true
  | .nilFunc, .nilFunc => true
  | .map none, .map none => true
  | .nilIface, .nilIface => true
  | _, _ => false
def leafZs : List Value → List Value → Bool
  | [], [] => true
  | a :: l, b :: m => leafZ a b && leafZs l m
  | _, _ => false
theorem leafZ_eq {a b : Value} (h : leafZ a b = true) : a = b := by
  unfold leafZ at h
  split at h
  · simp only [Bool.and_eq_true, decide_eq_true_eq] at h
    rw [h.1, h.2]
  · rename_i a b; cases a <;> cases b <;> simp at h <;> rfl
  · rename_i s t
    simp only [Bool.and_eq_true, List.isEmpty_iff, Array.toList_eq_nil_iff] at h
    cases s; cases t
    simp at h
    rw [h.1, h.2]
  all_goals first | rfl | cases h
theorem leafZs_eq : ∀ {l m : List Value}, leafZs l m = true → l = m
  | [], [], _ => rfl
  | a :: l, b :: m, h => by
    simp only [leafZs, Bool.and_eq_true] at h
    rw [leafZ_eq h.1, leafZs_eq h.2]
  | [], _ :: _, h => by cases h
  | _ :: _, [], h => by cases h
def infoOK (P : Program) (t : TypeId) (n : Nat) (agg : Bool) (zs : List Value) : Bool :=
  match P.info? t with
  | some i => Nat.beq i.size n && (Nat.ble i.bytes 16384 && (match i.zero with
    | some z => match agg with
      | true => match z with
        | .agg cs => leafZs cs.toList zs
        | _ => false
      | false => match zs with
        | [x] => leafZ z x
        | _ => false
    | none => false))
  | none => false
theorem infoOK_agg {P : Program} {t : TypeId} {n : Nat} {zs : List Value} (h : infoOK P t n true zs = true) : ∃ i, P.info? t = some i ∧ i.size = n ∧ i.zero = some (.agg zs.toArray) ∧ i.bytes ≤ 16384 := by
  unfold infoOK at h
  split at h
  · rename_i i hi
    simp only [Bool.and_eq_true] at h
    obtain ⟨h1, h2, h3⟩ := h
    refine ⟨i, hi, Nat.eq_of_beq_eq_true h1, ?_, Nat.le_of_ble_eq_true h2⟩
    split at h3
    · rename_i z hz
      split at h3
      · rename_i cs
        rw [hz, ← leafZs_eq h3]
      · cases h3
    · cases h3
  · cases h
theorem infoOK_leaf {P : Program} {t : TypeId} {n : Nat} {z0 : Value} (h : infoOK P t n false [z0] = true) : ∃ i, P.info? t = some i ∧ i.size = n ∧ i.zero = some z0 ∧ i.bytes ≤ 16384 := by
  unfold infoOK at h
  split at h
  · rename_i i hi
    simp only [Bool.and_eq_true] at h
    obtain ⟨h1, h2, h3⟩ := h
    refine ⟨i, hi, Nat.eq_of_beq_eq_true h1, ?_, Nat.le_of_ble_eq_true h2⟩
    split at h3
    · rename_i z hz
      rw [hz, leafZ_eq h3]
    · cases h3
  · cases h
mutual
def chkTy (P : Program) (t : TypeId) : Ty → Bool
  | .int k => infoOK P t 1 false [.int k 0] && (match P.underlying t with | some (.int k') => decide (k' = k) | _ => false)
  | .bool => infoOK P t 1 false [.bool false] && (match P.underlying t with | some .bool => true | _ => false)
  | .str => infoOK P t 1 false [.string ⟨#[]⟩] && (match P.underlying t with | some .string => true | _ => false)
  | .slice T => infoOK P t 1 false [.slice none 0 0] && (match P.underlying t with | some (.slice e) => chkTy P e T && (Nat.blt 0 T.cells && (!Nat.beq t bytesT || Nat.beq e byteT)) | _ => false)
  | .struct fs => infoOK P t fs.cells true (zerosV fs) && (match P.underlying t with | some (.struct fields) => chkTys P fields.toList 0 fs && (Ty.deep.go fs || (!P.stoodInHeld t && (!P.eqGuardType P.depth t && fields.toList.all fun f => !(f.name == "_")))) | _ => false)
def chkTys (P : Program) (fields : List Field) (off : Nat) : Tys → Bool
  | .nil => fields.isEmpty
  | .cons t ts => match fields with
    | f :: l => Nat.beq f.offset off && (Nat.blt 0 t.cells && (chkTy P f.type t && chkTys P l (off + t.cells) ts))
    | [] => false
end
mutual
def chkTD (P : Program) (t : TypeId) : TD → Bool
  | .data T => chkTy P t T
  | .cell k => infoOK P t 1 false [nilV k] && (match P.underlying t with | some d => (match d with | .struct _ | .array _ _ => false | .interface _ => true | _ => (match k with | .iface => false | _ => true)) | none => false)
  | .agg l => infoOK P t l.cells true l.zeroV && (match P.underlying t with | some (.struct fields) => chkTDs P fields.toList 0 l | _ => false)
  | .map K V => infoOK P t 1 false [nilV .map] && (match P.underlying t with | some (.map k e) => chkTy P k K && (chkTy P e V && (!K.deep && Nat.ble K.height 100)) | _ => false)
def chkTDs (P : Program) (fields : List Field) (off : Nat) : TDs → Bool
  | .nil => fields.isEmpty
  | .cons t ts => match fields with
    | f :: l => Nat.beq f.offset off && (Nat.blt 0 t.cells && (chkTD P f.type t && chkTDs P l (off + t.cells) ts))
    | [] => false
end
mutual
theorem chkTy_ok {P : Program} : ∀ (T : Ty) (t : TypeId), chkTy P t T = true → TyOK P t T
  | .int k, t, h => by
    simp only [chkTy, Bool.and_eq_true] at h
    refine ⟨infoOK_leaf h.1, ?_⟩
    have := h.2
    split at this
    · rename_i k' hk; rw [hk, of_decide_eq_true this]
    · cases this
  | .bool, t, h => by
    simp only [chkTy, Bool.and_eq_true] at h
    refine ⟨infoOK_leaf h.1, ?_⟩
    have := h.2
    split at this
    · rename_i hk; exact hk
    · cases this
  | .str, t, h => by
    simp only [chkTy, Bool.and_eq_true] at h
    refine ⟨infoOK_leaf h.1, ?_⟩
    have := h.2
    split at this
    · rename_i hk; exact hk
    · cases this
  | .slice T, t, h => by
    simp only [chkTy, Bool.and_eq_true] at h
    simp only [TyOK]
    refine ⟨infoOK_leaf h.1, ?_⟩
    have h2 := h.2
    split at h2
    · rename_i e he
      simp only [Bool.and_eq_true] at h2
      refine ⟨e, he, chkTy_ok T e h2.1, by simpa using h2.2.1, fun ht => ?_⟩
      have h3 := h2.2.2
      subst ht
      simpa using h3
    · cases h2
  | .struct fs, t, h => by
    simp only [chkTy, Bool.and_eq_true] at h
    simp only [TyOK]
    refine ⟨infoOK_agg h.1, ?_⟩
    have h2 := h.2
    split at h2
    · rename_i fields he
      simp only [Bool.and_eq_true] at h2
      refine ⟨fields, he, chkTys_ok fs fields.toList 0 h2.1, fun hd => ?_⟩
      have h3 := h2.2
      simp only [hd, Bool.false_or, Bool.and_eq_true, Bool.not_eq_true', List.all_eq_true] at h3
      exact ⟨h3.1, h3.2.1, fun f hf => h3.2.2 f hf⟩
    · cases h2
theorem chkTys_ok {P : Program} : ∀ (T : Tys) (fields : List Field) (off : Nat), chkTys P fields off T = true → TysOK P fields off T
  | .nil, fields, off, h => by
    simp only [chkTys, List.isEmpty_iff] at h
    subst h
    simp only [TysOK]
  | .cons t ts, fields, off, h => by
    simp only [chkTys] at h
    split at h
    · rename_i f l
      simp only [Bool.and_eq_true] at h
      simp only [TysOK]
      exact ⟨Nat.eq_of_beq_eq_true h.1, by simpa using h.2.1, chkTy_ok t _ h.2.2.1, chkTys_ok ts l _ h.2.2.2⟩
    · cases h
end
mutual
theorem chkTD_ok {P : Program} : ∀ (T : TD) (t : TypeId), chkTD P t T = true → TDOK P t T
  | .data T, t, h => by simp only [chkTD] at h; simp only [TDOK]; exact chkTy_ok T t h
  | .cell k, t, h => by
    simp only [chkTD, Bool.and_eq_true] at h
    simp only [TDOK]
    refine ⟨infoOK_leaf h.1, ?_⟩
    have h2 := h.2
    split at h2
    · rename_i d hd
      exact ⟨d, hd, by split at h2 <;> first | (simp_all; done) | (cases k <;> simp_all)⟩
    · cases h2
  | .agg fs, t, h => by
    simp only [chkTD, Bool.and_eq_true] at h
    simp only [TDOK]
    refine ⟨infoOK_agg h.1, ?_⟩
    have h2 := h.2
    split at h2
    · rename_i fields he
      exact ⟨fields, he, chkTDs_ok fs fields.toList 0 h2⟩
    · cases h2
  | .map K V, t, h => by
    simp only [chkTD, Bool.and_eq_true] at h
    simp only [TDOK]
    refine ⟨infoOK_leaf h.1, ?_⟩
    have h2 := h.2
    split at h2
    · rename_i k e hd
      simp only [Bool.and_eq_true, Bool.not_eq_true'] at h2
      exact ⟨k, e, hd, chkTy_ok K k h2.1, chkTy_ok V e h2.2.1, h2.2.2.1, Nat.le_of_ble_eq_true h2.2.2.2⟩
    · cases h2
theorem chkTDs_ok {P : Program} : ∀ (T : TDs) (fields : List Field) (off : Nat), chkTDs P fields off T = true → TDsOK P fields off T
  | .nil, fields, off, h => by
    simp only [chkTDs, List.isEmpty_iff] at h
    subst h
    simp only [TDsOK]
  | .cons t ts, fields, off, h => by
    simp only [chkTDs] at h
    split at h
    · rename_i f l
      simp only [Bool.and_eq_true] at h
      simp only [TDsOK]
      exact ⟨Nat.eq_of_beq_eq_true h.1, by simpa using h.2.1, chkTD_ok t _ h.2.2.1, chkTDs_ok ts l _ h.2.2.2⟩
    · cases h
end
/-- types by number -/
def types : List (Nat × TD) → Nat → Option TD
  | [], _ => none
  | p :: l, t => cond (Nat.beq p.1 t) (some p.2) (types l t)
def chkTypes (P : Program) : List (Nat × TD) → Bool
  | [] => true
  | p :: l => chkTD P p.1 p.2 && chkTypes P l
theorem types_ok {P : Program} : ∀ (l : List (Nat × TD)), chkTypes P l = true → ∀ t d, types l t = some d → TDOK P t d
  | [], _, t, d, h => by cases h
  | p :: l, hc, t, d, h => by
    simp only [chkTypes, Bool.and_eq_true] at hc
    simp only [types] at h
    by_cases e : p.1 = t
    · subst e
      simp only [Nat.beq_refl, cond_true, Option.some.injEq] at h
      subst h
      exact chkTD_ok _ _ hc.1
    · have : Nat.beq p.1 t = false := by rw [← Bool.not_eq_true]; simpa using e
      rw [this] at h
      exact types_ok l hc.2 t d h
/-- an environment from tables -/
def mkEnv (ts : List (Nat × TD)) (fs : List (Nat × FSem)) : Env := { td := types ts, call := calls fs }
theorem mkEnv_ok {P : Program} {ts : List (Nat × TD)} {fs : List (Nat × FSem)} (h : chkTypes P ts = true) (hf : ∀ p ∈ fs, SoundF P p.1 p.2) : EnvOK P (mkEnv ts fs) :=
  ⟨types_ok ts h, calls_sound fs hf⟩
end Go.Vm

/- Vm, part 24: what follows may be taken out of an evaluation. Own work. -/
set_option linter.unusedVariables false
set_option linter.unusedSimpArgs false
namespace Go.Vm
section
variable {E : Env} {S : St} {o : Oper} {al : Nat} {ρ τ : Type} {f : ρ → Option τ}
theorem cond_bind (b : Bool) (x y : Option ρ) : (cond b x y).bind f = cond b (x.bind f) (y.bind f) := by cases b <;> rfl
theorem optK_bind {α : Type} (x : Option α) (K : α → Option ρ) : (optK x K).bind f = optK x (fun y => (K y).bind f) := by cases x <;> rfl
theorem evP_nat (K : PV → Option OB → Option ρ) : (evP E o S al K).bind f = evP E o S al (fun v b => (K v b).bind f) := by
  rw [evP_both, evP_both (K := fun v b => (K v b).bind f), optK_bind]
theorem addK_nat (d : Option Tmp) (v : PV) (b : Option OB) (K : St → Option ρ) : (addK S al d v b K).bind f = addK S al d v b (fun S => (K S).bind f) := by
  unfold addK
  cases b with
  | none => rfl
  | some b => simp only [cond_bind]; rfl
theorem prep_nat : ∀ (ms : List Mode) (vs : List PV) (S : St) (K : St → List PV → Option ρ), (prepArgs S ms vs K).bind f = prepArgs S ms vs (fun S l => (K S l).bind f)
  | [], vs, S, K => rfl
  | m :: ms, [], S, K => rfl
  | m :: ms, v :: vs, S, K => by
    simp only [prepArgs]
    split
    · rw [cond_bind, prep_nat ms vs]; rfl
    · rw [prep_nat ms vs]
theorem run_nat (sem : FSem) (args : List PV) (objs : List OB) (K : PV → List OB → Option ρ) : (sem.run args objs K).bind f = sem.run args objs (fun v l => (K v l).bind f) := by
  rw [sem.param, sem.param (K := fun v l => (K v l).bind f)]
  cases sem.run args objs (fun v l => some (v, l)) <;> rfl
theorem evCall_nat (g : Nat) (args : List PV) (K : St → PV → Option ρ) : (evCall E g args S K).bind f = evCall E g args S (fun S v => (K S v).bind f) := by
  unfold evCall
  rw [prep_nat]
  congr 1
  funext S1 l
  rw [optK_bind]
  congr 1
  funext as
  simp only [cond_bind, run_nat]
  rfl
theorem evCallG_nat (g : Nat) (args : List PV) (K : St → PV → Option ρ) : (evCallG E g args S K).bind f = evCallG E g args S (fun S v => (K S v).bind f) := by
  unfold evCallG
  rw [cond_bind, optK_bind, evCall_nat]
  congr 2
  funext as
  exact evCall_nat _ _ _
theorem bound_nat (x : Option Operand) (d : Int) (K : Int → Option ρ) : (evP.boundK S x d K).bind f = evP.boundK S x d (fun n => (K n).bind f) := by
  unfold evP.boundK
  repeat' split
  all_goals first | rfl | (simp_all; done)
theorem evF_nat (K : St → Option ρ) : (evF E o S al K).bind f = evF E o S al (fun S => (K S).bind f) := by
  have hq : (evP E o S al fun v b => addK S al o.dst v b K).bind f = evP E o S al fun v b => addK S al o.dst v b (fun S => (K S).bind f) := by
    rw [evP_nat]; congr 1; funext v b; exact addK_nat _ _ _ _
  cases hop : o.op
  case store t x y =>
    simp only [evF, hop]
    repeat' split
    all_goals first | rfl | (rw [cond_bind]; rfl) | (rw [cond_bind, optK_bind]; simp only [cond_bind]; rfl)
  case slice t x lo hi mx =>
    simp only [evF, hop]
    split
    · cases E.view with
      | true => simp only [cond_true]; exact hq
      | false =>
        simp only [cond_false]
        split
        · rw [bound_nat]; congr 1; funext l; rw [bound_nat]; congr 1; funext h; rw [cond_bind]; rfl
        · rfl
    · exact hq
  case call c =>
    cases hc : c.callee with
    | value x =>
      simp only [evF, hop, hc]
      split
      · exact evCallG_nat _ _ _
      · rfl
    | invoke r m => simp only [evF, hop, hc]; rfl
    | builtin b =>
      cases b
      case append =>
        simp only [evF, hop, hc]
        split
        · rename_i s x t t2 ts _ _
          split
          · cases isZeros (E.td t2)
            · simp only [cond_false]
              cases isStrD (E.td t2)
              · simp only [cond_false]
                split
                · rw [optK_bind]
                  congr 1
                  funext ys
                  split
                  · rw [cond_bind, addK_nat]; rfl
                  · split
                    · rw [optK_bind]; congr 1; funext xs; rw [cond_bind]; rfl
                    · rfl
                  · rfl
                · rfl
              · simp only [cond_true]
                split
                · rw [cond_bind]
                  congr 1
                  split
                  · rw [cond_bind, addK_nat]; rfl
                  · split
                    · rw [cond_bind]; rfl
                    · rfl
                  · rfl
                · rfl
            · simp only [cond_true]
              split
              · rw [cond_bind, addK_nat]; rfl
              · rfl
          · rfl
        · rfl
      case clear =>
        simp only [evF, hop, hc]
        repeat' split
        all_goals first | rfl | (simp only [optK_bind, cond_bind]; done) | (simp only [optK_bind, cond_bind]; rfl)
      case delete =>
        simp only [evF, hop, hc]
        repeat' split
        all_goals first | rfl | (simp only [optK_bind, cond_bind]; rfl)
      case copy =>
        simp only [evF, hop, hc]
        repeat' split
        all_goals first | rfl | (simp only [optK_bind]; done) | (simp only [optK_bind, cond_bind]; done) | (rw [optK_bind]; done) | (rw [optK_bind]; congr 1; done) | (rw [optK_bind]; congr 1; funext ys; repeat' split; all_goals first | rfl | (rw [optK_bind]; done) | (rw [optK_bind]; rfl))
      all_goals (simp only [evF, hop, hc]; exact hq)
  case mapUpdate =>
    simp only [evF, hop]
    repeat' split
    all_goals first | rfl | (simp only [optK_bind, cond_bind]; rfl)
  case insert =>
    simp only [evF, hop]
    repeat' split
    all_goals first | rfl | (simp only [optK_bind, cond_bind]; rfl)
  case mapEntry =>
    simp only [evF, hop]
    repeat' split
    all_goals first | rfl | (simp only [optK_bind, cond_bind]; rfl)
  case entryStore =>
    simp only [evF, hop]
    repeat' split
    all_goals first | rfl | (simp only [optK_bind, cond_bind]; rfl)
  all_goals (simp only [evF, hop]; exact hq)
theorem wantK_nat (all : List Oper) (yes no : St → Option ρ) : (wantK all o S yes no).bind f = wantK all o S (fun S => (yes S).bind f) (fun S => (no S).bind f) := by
  unfold wantK
  split
  · rfl
  · rfl
  · split
    · simp only [cond_bind]
    · rfl
    · rfl
theorem evOps_nat (all : List Oper) : ∀ (l : List Oper) (S : St) (K : St → Option ρ), (evOps E all l S K).bind f = evOps E all l S (fun S => (K S).bind f)
  | [], S, K => rfl
  | o :: l, S, K => by
    simp only [evOps]
    rw [wantK_nat]
    congr 1
    · funext S1; rw [evF_nat]; congr 1; funext S2; exact evOps_nat all l S2 K
    · funext S1; exact evOps_nat all l _ K
theorem evQuiet_nat (K : PV → Option OB → Option ρ) : (evQuiet E o S al K).bind f = evQuiet E o S al (fun v b => (K v b).bind f) := by
  unfold evQuiet
  split
  · split
    · rw [optK_bind]
      congr 1
      funext as
      rw [cond_bind, run_nat]
      congr 2
      funext v l
      rw [cond_bind]
      congr 1
      split
      · rw [cond_bind]; rfl
      · rw [cond_bind]; rfl
      · rfl
    · exact evP_nat K
  · exact evP_nat K
theorem bigK_nat {M : St} (K : PV → List OB → Option ρ) : (bigK E o M K).bind f = bigK E o M (fun v l => (K v l).bind f) := by
  unfold bigK
  split
  · split
    · split
      · rw [cond_bind, run_nat]; rfl
      · rfl
    · rfl
  · rfl
theorem evDraw_nat (all : List Oper) (bf : List (List Nat)) (base : Nat) : ∀ (l : List Oper) (j : Nat) (S : St) (K : St → Option ρ), (evDraw E all bf base j l S K).bind f = evDraw E all bf base j l S (fun S => (K S).bind f)
  | [], j, S, K => rfl
  | o :: l, j, S, K => by
    simp only [evDraw]
    rw [wantK_nat]
    congr 1
    · funext S1
      rw [cond_bind, evQuiet_nat, cond_bind, bigK_nat, cond_bind, evF_nat]
      congr 1
      · congr 1; funext v b; rw [cond_bind, evDraw_nat all bf base l]; rfl
      · congr 1
        · congr 1; funext v b; rw [cond_bind, evDraw_nat all bf base l]; rfl
        · congr 1; congr 1; funext S2; rw [cond_bind, evDraw_nat all bf base l]; rfl
    · funext S1
      rw [cond_bind, cond_bind, evDraw_nat all bf base l]; rfl
theorem evRegion_nat (ops : List Oper) (draw : Bool) (K : St → Option ρ) : (evRegion E ops draw S K).bind f = evRegion E ops draw S (fun S => (K S).bind f) := by
  unfold evRegion
  rw [cond_bind, cond_bind, evDraw_nat, evOps_nat]
  rfl
mutual
theorem take_nat (f : ρ → Option τ) : ∀ (s : Sh) (v : PV) (K : s.den → List (Option Nat) → Option ρ), (Sh.take S s v K).bind f = Sh.take S s v (fun y l => (K y l).bind f)
  | .int k, v, K => by
    simp only [Sh.take]
    split
    · rw [cond_bind]; rfl
    · rfl
  | .bool, v, K => by
    simp only [Sh.take]
    split <;> rfl
  | .str, v, K => by
    simp only [Sh.take]
    split <;> rfl
  | .sl T, v, K => by
    simp only [Sh.take]
    split
    · rw [optK_bind]
    · rfl
    · rfl
  | .row T, v, K => by
    simp only [Sh.take]
    split
    · split
      · rw [optK_bind]
      · rfl
    · rfl
    · rfl
  | .box d s, v, K => by
    simp only [Sh.take]
    split
    · split
      · rw [cond_bind, take_nat f s]; rfl
      · rfl
    · rfl
  | .agg l, v, K => by
    simp only [Sh.take]
    split
    · exact takes_nat f l _ K
    · rfl
  | .map T U, v, K => by
    simp only [Sh.take]
    split
    · split
      · rw [optK_bind]
      · rfl
    · rfl
  | .bytes, v, K => by
    simp only [Sh.take]
    split
    · split <;> rfl
    · rfl
    · rfl
theorem takes_nat (f : ρ → Option τ) : ∀ (s : Shs) (v : List PV) (K : s.den → List (Option Nat) → Option ρ), (Shs.take S s v K).bind f = Shs.take S s v (fun y l => (K y l).bind f)
  | .nil, v, K => by
    simp only [Shs.take]
    split <;> rfl
  | .cons s t, v, K => by
    simp only [Shs.take]
    split
    · rw [take_nat f s]; congr 1; funext y a; exact takes_nat f t _ _
    · rfl
  | .skip t, v, K => by
    simp only [Shs.take]
    split
    · rename_i v vs
      rw [cond_bind]
      exact congrArg (fun z => cond v.isOne z none) (takes_nat f t vs K)
    · rfl
end
theorem obTake_nat (s : Sh) (b : OB) (K : s.den → List (Option Nat) → Option ρ) : (obTake S s b K).bind f = obTake S s b (fun y l => (K y l).bind f) := by
  cases s with
  | row T => simp only [obTake]; split; rw [optK_bind]; rfl
  | box d s =>
    simp only [obTake]
    split
    · rw [cond_bind]
      congr 1
      exact take_nat f s _ _
    · rfl
  | map T U => simp only [obTake]; split; rw [optK_bind]; rfl
  | _ => rfl
theorem objsTake_nat : ∀ (l : List (Nat × Sh)) (K : (shsOf l).den → List (Option Nat) → Option ρ), (objsTake S l K).bind f = objsTake S l (fun y l => (K y l).bind f)
  | [], K => rfl
  | p :: r, K => by simp only [objsTake]; rw [obTake_nat]; congr 1; funext y a; exact objsTake_nat r _
theorem slotsTake_nat : ∀ (l : List (Nat × Sh)) (K : (shsOf l).den → List (Option Nat) → Option ρ), (slotsTake S l K).bind f = slotsTake S l (fun y l => (K y l).bind f)
  | [], K => rfl
  | p :: r, K => by simp only [slotsTake]; rw [take_nat f]; congr 1; funext y a; exact slotsTake_nat r _
theorem settle_nat : ∀ (l : List (Nat × Sh)) (S : St) (K : St → Option ρ), (settle l S K).bind f = settle l S (fun S => (K S).bind f)
  | [], S, K => rfl
  | p :: l, S, K => by
    simp only [settle]
    split
    · split
      · split
        · rw [cond_bind, settle_nat l]; rfl
        · rfl
      · exact settle_nat l S K
    · exact settle_nat l S K
theorem sshTake_nat (s : SSh) (n0 : Nat) (K : s.den → Option ρ) : (s.take n0 S K).bind f = s.take n0 S (fun y => (K y).bind f) := by
  unfold SSh.take
  rw [settle_nat]
  congr 1
  funext S
  unfold SSh.take0
  rw [objsTake_nat]
  congr 1; funext z b
  rw [slotsTake_nat]
  congr 1; funext y a
  rw [cond_bind]; rfl
def stepF {σ α β : Type} (F : α → Option β) : σ ⊕ α → Option (σ ⊕ β)
  | .inl s => some (.inl s)
  | .inr t => (F t).map .inr
theorem iter_nat {σ α β : Type} (F : α → Option β) : ∀ (k : Nat) (g : σ → Option (σ ⊕ α)) (s : σ), (iter k g s).bind F = iter k (fun s => (g s).bind (stepF F)) s
  | 0, g, s => rfl
  | k + 1, g, s => by
    simp only [iter]
    cases g s with
    | none => rfl
    | some r =>
      cases r with
      | inl s' => simp only [Option.bind_some]; exact iter_nat F k g s'
      | inr t => simp only [Option.bind_some, stepF]; cases F t <;> rfl
end
def Kt.bind {σ τ : Type} (K : Kt σ) (f : σ → Option τ) : Kt τ := ⟨fun S => (K.n S).bind f, fun j S => (K.x j S).bind f, fun S => (K.r S).bind f⟩
theorem Kt.ext {σ : Type} {K K' : Kt σ} (h1 : ∀ S, K.n S = K'.n S) (h2 : ∀ j S, K.x j S = K'.x j S) (h3 : ∀ S, K.r S = K'.r S) : K = K' := by
  cases K; cases K'
  simp only [Kt.mk.injEq]
  exact ⟨funext h1, funext fun j => funext (h2 j), funext h3⟩
theorem meet_nat {σ τ : Type} (f : σ → Option τ) (h : Option SSh) (ds : List Nat) (S : St) (K : Kt σ) (go : {τ : Type} → St → Kt τ → Option τ)
    (hgo : ∀ {α β : Type} (F : α → Option β) (S' : St) (K : Kt α), S'.slots = S.slots → (go S' K).bind F = go S' (K.bind F)) : (meetK h ds S K go).bind f = meetK h ds S (K.bind f) go := by
  unfold meetK
  cases h with
  | none => exact hgo f S K rfl
  | some s =>
    simp only
    rw [cond_bind]
    congr 1
    let F : σ ⊕ s.den → Option (τ ⊕ s.den) := fun r => match r with | .inl z => (f z).map .inl | .inr y => some (.inr y)
    have hK : (⟨fun S' => s.take S.objs.length S' fun y => some (.inr y), fun j S' => ((K.bind f).x j (S'.touch (S'.touched ++ S.touched))).map .inl, fun S' => ((K.bind f).r (S'.touch (S'.touched ++ S.touched))).map .inl⟩ : Kt (τ ⊕ s.den)) =
        (⟨fun S' => s.take S.objs.length S' fun y => some (.inr y), fun j S' => (K.x j (S'.touch (S'.touched ++ S.touched))).map .inl, fun S' => (K.r (S'.touch (S'.touched ++ S.touched))).map .inl⟩ : Kt (σ ⊕ s.den)).bind F := by
      refine Kt.ext (fun S' => ?_) (fun j S' => ?_) (fun S' => ?_)
      · exact (sshTake_nat (f := F) (S := S') s S.objs.length (fun y => some (.inr y))).symm
      · simp only [Kt.bind]; cases K.x j (S'.touch (S'.touched ++ S.touched)) <;> rfl
      · simp only [Kt.bind]; cases K.r (S'.touch (S'.touched ++ S.touched)) <;> rfl
    rw [hK, ← hgo F (S.touch []) _ rfl]
    cases go (S.touch []) _ with
    | none => rfl
    | some r =>
      cases r with
      | inl z => simp only [Option.bind_some, F]; cases f z <;> rfl
      | inr y => simp only [Option.bind_some, F]; rfl
theorem ev_nat {E : Env} {H : Hints} {k : Nat} : ∀ (code : Code) (i : Nat) {σ τ : Type} (f : σ → Option τ) (S : St) (K : Kt σ), (ev E H k code i S K).bind f = ev E H k code i S (K.bind f)
  | .skip, i, σ, τ, f, S, K => rfl
  | .ret, i, σ, τ, f, S, K => rfl
  | .exit id, i, σ, τ, f, S, K => rfl
  | .region id ops draw, i, σ, τ, f, S, K => by
    simp only [ev]
    exact meet_nat f _ _ S K _ (fun F S' K _ => evRegion_nat _ _ _)
  | .seq a b, i, σ, τ, f, S, K => by
    simp only [ev]
    rw [ev_nat a]
    congr 1
    refine Kt.ext (fun S' => ?_) (fun j S' => rfl) (fun S' => rfl)
    exact ev_nat b i f S' K
  | .cond c a b, i, σ, τ, f, S, K => by
    simp only [ev]
    split
    · split
      · refine meet_nat f _ _ S K _ (fun F S' K _ => ?_)
        rw [cond_bind, ev_nat a, ev_nat b]
      · rfl
    · split
      · rw [cond_bind, ev_nat a, ev_nat b]
      · rfl
    · rfl
  | .block id b, i, σ, τ, f, S, K => by
    simp only [ev]
    refine meet_nat f _ _ S K _ (fun F S' K _ => ?_)
    rw [ev_nat b]
    congr 1
    refine Kt.ext (fun S' => rfl) (fun j S' => ?_) (fun S' => rfl)
    simp only [Kt.bind, cond_bind]
  | .loop b, i, σ, τ, f, S, K => by
    simp only [ev]
    split
    · have hu : ∀ (m : Nat) (S : St), (unroll m (fun S n => ev E H k b i S { n := n, x := K.x, r := K.r }) S).bind f = unroll m (fun S n => ev E H k b i S { n := n, x := (K.bind f).x, r := (K.bind f).r }) S := by
        intro m
        induction m with
        | zero => intro S; rfl
        | succ m ih =>
          intro S
          simp only [unroll]
          rw [ev_nat b]
          congr 1
          refine Kt.ext (fun S' => ?_) (fun j S' => rfl) (fun S' => rfl)
          exact ih S'
      exact hu k S
    · rename_i hd ex out hH
      split
      · split
        · split
          · rw [cond_bind, sshTake_nat]
            congr 1
            congr 1
            funext y0
            rw [Option.bind_assoc]
            rfl
          · rfl
        · rfl
      rw [cond_bind, sshTake_nat]
      congr 1
      congr 1
      funext y0
      let F : σ ⊕ out.den → Option (τ ⊕ out.den) := fun r => match r with | .inl z => (f z).map .inl | .inr z => some (.inr z)
      have hbody : (fun y => ev E H k b i (σ := hd.den ⊕ (τ ⊕ out.den)) (hd.lay S (dsts b) y)
              { n := fun S' => hd.take S.objs.length S' fun y => some (.inl y)
                x := fun j S' => cond (Nat.beq j ex) (out.take S.objs.length S' fun z => some (.inr (.inr z))) none
                r := fun S' => ((K.bind f).r (S'.touch (S'.touched ++ S.touched))).map fun z => .inr (.inl z) }) =
          (fun y => (ev E H k b i (σ := hd.den ⊕ (σ ⊕ out.den)) (hd.lay S (dsts b) y)
              { n := fun S' => hd.take S.objs.length S' fun y => some (.inl y)
                x := fun j S' => cond (Nat.beq j ex) (out.take S.objs.length S' fun z => some (.inr (.inr z))) none
                r := fun S' => (K.r (S'.touch (S'.touched ++ S.touched))).map fun z => .inr (.inl z) }).bind (stepF F)) := by
        funext y
        rw [ev_nat b]
        congr 1
        refine Kt.ext (fun S' => ?_) (fun j S' => ?_) (fun S' => ?_)
        · simp only [Kt.bind]; rw [sshTake_nat]; rfl
        · simp only [Kt.bind]; rw [cond_bind, sshTake_nat]; rfl
        · simp only [Kt.bind]
          cases K.r (S'.touch (S'.touched ++ S.touched)) with
          | none => rfl
          | some z => simp only [Option.bind_some, Option.map_some, F, stepF]; cases f z <;> rfl
      rw [hbody, ← iter_nat F]
      cases iter k _ y0 with
      | none => rfl
      | some r =>
        cases r with
        | inl z => simp only [Option.bind_some, F]; cases f z <;> rfl
        | inr z => simp only [Option.bind_some, F]; rfl
  | .rangeFunc _ _ _ _, i, σ, τ, f, S, K => rfl
  | .scope _, i, σ, τ, f, S, K => rfl
  | .refuse _, i, σ, τ, f, S, K => rfl
  | .label _, i, σ, τ, f, S, K => rfl
  | .goto _, i, σ, τ, f, S, K => rfl
end Go.Vm
