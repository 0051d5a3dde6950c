/- Vm, part 5: the operations, one by one. Own work. -/
import Derived.Test.YtfiembgemhonlaaVmRel
import Derived.Laws.NewBlocks
import Derived.Laws.Small
set_option linter.unusedVariables false
set_option linter.unusedSimpArgs false
namespace Go.Vm
open Go.RowKit

/-! ### Types of the program -/
mutual
def zeroV : Ty → List Value
  | .int k => [.int k 0] | .bool => [.bool false] | .str => [.string ⟨#[]⟩] | .slice _ => [.slice none 0 0] | .struct fs => zerosV fs
def zerosV : Tys → List Value
  | .nil => [] | .cons t ts => zeroV t ++ zerosV ts
end
def wrapV (agg : Bool) (cs : List Value) : Value := if agg then .agg cs.toArray else cs.headD undef
mutual
def TyOK (P : Program) (t : TypeId) : Ty → Prop
  | .int k => (∃ i, P.info? t = some i ∧ i.size = 1 ∧ i.zero = some (.int k 0) ∧ i.bytes ≤ 16384) ∧ P.underlying t = some (.int k)
  | .bool => (∃ i, P.info? t = some i ∧ i.size = 1 ∧ i.zero = some (.bool false) ∧ i.bytes ≤ 16384) ∧ P.underlying t = some .bool
  | .str => (∃ i, P.info? t = some i ∧ i.size = 1 ∧ i.zero = some (.string ⟨#[]⟩) ∧ i.bytes ≤ 16384) ∧ P.underlying t = some .string
  | .slice T => (∃ i, P.info? t = some i ∧ i.size = 1 ∧ i.zero = some (.slice none 0 0) ∧ i.bytes ≤ 16384) ∧ ∃ e, P.underlying t = some (.slice e) ∧ TyOK P e T ∧ 0 < T.cells
  | .struct fs => (∃ i, P.info? t = some i ∧ i.size = fs.cells ∧ i.zero = some (.agg (zerosV fs).toArray) ∧ i.bytes ≤ 16384) ∧ ∃ fields, P.underlying t = some (.struct fields) ∧ TysOK P fields.toList 0 fs
def TysOK (P : Program) : List Field → Nat → Tys → Prop
  | [], _, .nil => True
  | f :: l, off, .cons t ts => f.offset = off ∧ 0 < t.cells ∧ TyOK P f.type t ∧ TysOK P l (off + t.cells) ts
  | _, _, _ => False
end
def zeroCK : CK → Value := nilV
mutual
def TD.zeroV : TD → List Value
  | .data T => Vm.zeroV T | .cell k => [nilV k] | .agg l => TDs.zeroV l
def TDs.zeroV : TDs → List Value
  | .nil => [] | .cons d l => d.zeroV ++ TDs.zeroV l
end
mutual
def TDOK (P : Program) (t : TypeId) : TD → Prop
  | .data T => TyOK P t T
  | .cell k => (∃ i, P.info? t = some i ∧ i.size = 1 ∧ i.zero = some (nilV k) ∧ i.bytes ≤ 16384) ∧ ∃ d, P.underlying t = some d ∧ (match d with | .struct _ | .array _ _ => False | _ => True)
  | .agg l => (∃ i, P.info? t = some i ∧ i.size = l.cells ∧ i.zero = some (.agg l.zeroV.toArray) ∧ i.bytes ≤ 16384) ∧ ∃ fields, P.underlying t = some (.struct fields) ∧ TDsOK P fields.toList 0 l
def TDsOK (P : Program) : List Field → Nat → TDs → Prop
  | [], _, .nil => True
  | f :: l, off, .cons t ts => f.offset = off ∧ 0 < t.cells ∧ TDOK P f.type t ∧ TDsOK P l (off + t.cells) ts
  | _, _, _ => False
end
theorem TyOK.info {P : Program} {t : TypeId} : ∀ {T : Ty}, TyOK P t T → ∃ i, P.info? t = some i ∧ i.size = T.cells ∧ i.zero = some (wrapV T.isAgg (zeroV T)) ∧ i.bytes ≤ 16384
  | .int _, h => by simpa [TyOK, Ty.cells, wrapV, zeroV, Ty.isAgg] using h.1
  | .bool, h => by simpa [TyOK, Ty.cells, wrapV, zeroV, Ty.isAgg] using h.1
  | .str, h => by simpa [TyOK, Ty.cells, wrapV, zeroV, Ty.isAgg] using h.1
  | .slice _, h => by simp only [TyOK] at h; simpa [Ty.cells, wrapV, zeroV, Ty.isAgg] using h.1
  | .struct _, h => by simp only [TyOK] at h; simpa [Ty.cells, wrapV, zeroV, Ty.isAgg] using h.1
theorem TDOK.info {P : Program} {t : TypeId} : ∀ {T : TD}, TDOK P t T → ∃ i, P.info? t = some i ∧ i.size = T.cells ∧ i.zero = some (wrapV T.isAgg T.zeroV) ∧ i.bytes ≤ 16384
  | .data T, h => by simp only [TDOK] at h; simpa [TD.cells, TD.isAgg, TD.zeroV] using h.info
  | .cell _, h => by simp only [TDOK] at h; simpa [TD.cells, TD.isAgg, TD.zeroV, wrapV] using h.1
  | .agg _, h => by simp only [TDOK] at h; simpa [TD.cells, TD.isAgg, TD.zeroV, wrapV] using h.1
theorem TyOK.agg {P : Program} {t : TypeId} : ∀ {T : Ty}, TyOK P t T → ∃ d, P.underlying t = some d ∧ (match d with | .struct _ | .array _ _ => true | _ => false) = T.isAgg
  | .int _, h => ⟨_, h.2, rfl⟩
  | .bool, h => ⟨_, h.2, rfl⟩
  | .str, h => ⟨_, h.2, rfl⟩
  | .slice _, h => by simp only [TyOK] at h; obtain ⟨_, e, h, _⟩ := h; exact ⟨_, h, rfl⟩
  | .struct _, h => by simp only [TyOK] at h; obtain ⟨_, e, h, _⟩ := h; exact ⟨_, h, rfl⟩
theorem TDOK.agg {P : Program} {t : TypeId} : ∀ {T : TD}, TDOK P t T → ∃ d, P.underlying t = some d ∧ (match d with | .struct _ | .array _ _ => true | _ => false) = T.isAgg
  | .data T, h => by simp only [TDOK] at h; exact h.agg
  | .cell _, h => by
    simp only [TDOK] at h
    obtain ⟨_, d, h, h2⟩ := h
    exact ⟨d, h, by cases d <;> simp_all [TD.isAgg]⟩
  | .agg _, h => by simp only [TDOK] at h; obtain ⟨_, e, h, _⟩ := h; exact ⟨_, h, rfl⟩
def EnvTy (P : Program) (E : Env) : Prop := ∀ t d, E.td t = some d → TDOK P t d

section
variable {P : Program} {w : World}
theorem run_isAgg' {t : TypeId} {b : Bool} (h : ∃ d, P.underlying t = some d ∧ (match d with | .struct _ | .array _ _ => true | _ => false) = b) : (isAgg t).run P w = .ok b w := by
  obtain ⟨d, h, hb⟩ := h
  simp only [isAgg, Sem.run_bind, run_underlying h, Result.andThen]
  cases d <;> simp_all
theorem run_sizeOf' {t : TypeId} {n : Nat} (h : ∃ i, P.info? t = some i ∧ i.size = n) : (sizeOf t).run P w = .ok n w := by
  obtain ⟨i, h, rfl⟩ := h
  simp [sizeOf, typeInfo, h]
theorem run_zeroValue' {t : TypeId} {v : Value} (h : ∃ i, P.info? t = some i ∧ i.zero = some v) : (zeroValue t).run P w = .ok v w := by
  obtain ⟨i, h, h2⟩ := h
  simp [zeroValue, typeInfo, h, h2]
end
/-! ### Values that are told by their form -/
section
variable {w : World} {A : Nat → Prop} {ob : Nat → OB} {μ : Nat → Value}
theorem cells_one {x : Value} (h : aggV x = false) : x.cells = #[x] := by cases x <;> simp_all [aggV, Value.cells]
theorem VR.int {k : IntKind} {n : Int} {x : Value} (h : VR w A ob μ (.int k n) x) : x = .int k n := by
  rcases h with h | ⟨h, h2⟩
  · simp [PV.isAny] at h
  · rw [cells_one h2] at h; simpa [CR] using h
theorem VR.bool {b : Bool} {x : Value} (h : VR w A ob μ (.bool b) x) : x = .bool b := by
  rcases h with h | ⟨h, h2⟩
  · simp [PV.isAny] at h
  · rw [cells_one h2] at h; simpa [CR] using h
theorem VR.str {s : ByteArray} {x : Value} (h : VR w A ob μ (.str s) x) : x = .string s := by
  rcases h with h | ⟨h, h2⟩
  · simp [PV.isAny] at h
  · rw [cells_one h2] at h
    simp only [CR] at h
    simpa using h.1
theorem VR.undef {x : Value} (h : VR w A ob μ .undef x) : x = Go.undef := by
  rcases h with h | ⟨h, h2⟩
  · simp [PV.isAny] at h
  · rw [cells_one h2] at h; simpa [CR] using h
theorem VR.nil {x : Value} (h : VR w A ob μ .nil x) : x = .slice none 0 0 := by
  rcases h with h | ⟨h, h2⟩
  · simp [PV.isAny] at h
  · rw [cells_one h2] at h; simpa [CR] using h
theorem VR.nilc {k : CK} {x : Value} (h : VR w A ob μ (.nilc k) x) : x = nilV k := by
  rcases h with h | ⟨h, h2⟩
  · simp [PV.isAny] at h
  · rw [cells_one h2] at h; simpa [CR] using h
theorem VR.sl {T : Ty} {xs : List T.den} {x : Value} (h : VR w A ob μ (.sl T xs) x) : DR w A (.slice T) xs [x] := by
  rcases h with h | ⟨h, h2⟩
  · simp [PV.isAny] at h
  · rw [cells_one h2] at h; simpa [CR] using h
theorem VR.row {o : Nat} {x : Value} (h : VR w A ob μ (.row o) x) {T : Ty} {xs : List T.den} (ho : ob o = .row T xs) : μ o = x := by
  rcases h with h | ⟨h, h2⟩
  · simp [PV.isAny] at h
  · rw [cells_one h2] at h; simp only [CR, ho] at h; obtain ⟨v, e, _, h⟩ := h; simp at e; rw [h, e]
theorem VR.ptr {o : Nat} {p : List Nat} {x : Value} (h : VR w A ob μ (.ptr o p) x) {d : TD} {v : PV} (ho : ob o = .box d v) :
    ∃ b off d', μ o = .pointer (some ⟨b, 0, none⟩) ∧ d.off p = some (off, d') ∧ x = .pointer (some ⟨b, off, none⟩) := by
  rcases h with h | ⟨h, h2⟩
  · simp [PV.isAny] at h
  · rw [cells_one h2] at h; simp only [CR, ho] at h; obtain ⟨v, e, _, h⟩ := h; simp at e; rw [e]; exact h
theorem VR.elo {o : Nat} {i : Int} {p : List Nat} {x : Value} (h : VR w A ob μ (.elo o i p) x) {T : Ty} {xs : List T.den} (ho : ob o = .row T xs) :
    ∃ b off n c o2 T', μ o = .slice (some ⟨b, off, none⟩) n c ∧ T.off p = some (o2, T') ∧ 0 ≤ i ∧ x = .pointer (some ⟨b, off + i.toNat * T.cells + o2, none⟩) := by
  rcases h with h | ⟨h, h2⟩
  · simp [PV.isAny] at h
  · rw [cells_one h2] at h; simp only [CR, ho] at h; obtain ⟨v, e, _, h⟩ := h; simp at e; rw [e]; exact h
theorem VR.el {T : Ty} {y : T.den} {x : Value} (h : VR w A ob μ (.el T y) x) :
    ∃ b off cx, x = .pointer (some ⟨b, off, none⟩) ∧ ¬ A b ∧ b < w.heap.size ∧ DR w A T y cx ∧ LiesAt w b off cx := by
  rcases h with h | ⟨h, h2⟩
  · simp [PV.isAny] at h
  · rw [cells_one h2] at h; simp only [CR] at h; obtain ⟨b, off, cx, e, h⟩ := h; simp at e; exact ⟨b, off, cx, e, h⟩
theorem VR.func {f : Nat} {l : List PV} {x : Value} (h : VR w A ob μ (.func f l) x) : ∃ vs, x = .func (.func f) #[] vs ∧ TRs w A ob μ l vs.toList := by
  rcases h with h | ⟨h, h2⟩
  · simp [PV.isAny] at h
  · rw [cells_one h2] at h; simp only [CR] at h; obtain ⟨vs, e, h⟩ := h; simp at e; exact ⟨vs, e, h⟩
theorem VR.tup {l : List PV} {x : Value} (h : VR w A ob μ (.tup l) x) : ∃ vs, x = .tuple vs ∧ TRs w A ob μ l vs.toList := by
  rcases h with h | ⟨h, h2⟩
  · simp [PV.isAny] at h
  · rw [cells_one h2] at h; simp only [CR] at h; obtain ⟨vs, e, h⟩ := h; simp at e; exact ⟨vs, e, h⟩
theorem VR.agg {l : List PV} {x : Value} (h : VR w A ob μ (.agg l) x) : ∃ cs, x = .agg cs ∧ CRs w A ob μ l cs.toList := by
  rcases h with h | ⟨h, h2⟩
  · simp [PV.isAny] at h
  · cases x <;> simp_all [aggV, PV.isAgg, Value.cells, CR]
theorem VR.of_one {v : PV} {x : Value} (h : CR w A ob μ v [x]) (h1 : aggV x = false) (h2 : v.isAgg = false) : VR w A ob μ v x :=
  .inr ⟨by rw [cells_one h1]; exact h, by rw [h1, h2]⟩
theorem VR.mk_int (k : IntKind) (n : Int) : VR w A ob μ (.int k n) (.int k n) := .of_one (by simp [CR]) rfl rfl
theorem VR.mk_bool (b : Bool) : VR w A ob μ (.bool b) (.bool b) := .of_one (by simp [CR]) rfl rfl
theorem VR.mk_str (s : ByteArray) (h : s.size ≤ 9223372036854775807) : VR w A ob μ (.str s) (.string s) := .of_one (by unfold CR; exact ⟨rfl, h⟩) rfl rfl
theorem VR.str_size {s : ByteArray} {x : Value} (h : VR w A ob μ (.str s) x) : s.size ≤ 9223372036854775807 := by
  rcases h with h | ⟨h, _⟩
  · cases h
  · simp only [CR] at h; exact h.2
theorem VR.mk_any (x : Value) : VR w A ob μ .any x := .inl rfl
theorem VR.mk_undef : VR w A ob μ .undef Go.undef := .of_one (by simp [CR]) rfl rfl
theorem VR.mk_sl {T : Ty} {xs : List T.den} {x : Value} (h : DR w A (.slice T) xs [x]) : VR w A ob μ (.sl T xs) x := by
  refine .of_one (by simpa [CR] using h) ?_ rfl
  simp only [DR] at h
  obtain ⟨a, c, e, _⟩ := h
  simp at e; subst e; rfl

theorem VR.ofConst (v : Value) : VR w A ob μ (ofConst v) v := by
  unfold Vm.ofConst
  split
  · exact .mk_int _ _
  · exact .mk_bool _
  · rename_i s
    cases hb : Nat.ble s.size 9223372036854775807
    · exact .mk_any _
    · exact .mk_str _ (Nat.le_of_ble_eq_true hb)
  · exact .of_one (by simp [CR]) rfl rfl
  · exact .of_one (by simp [CR, nilV]) rfl rfl
  · exact .of_one (by simp [CR, nilV]) rfl rfl
  · exact .of_one (by simp [CR, nilV]) rfl rfl
  · exact .of_one (by simp [CR, nilV]) rfl rfl
  · exact .mk_any _
end

/-! ### The variables -/
/-- the variables hold these values -/
structure Slots (w : World) (A : Nat → Prop) (ob : Nat → OB) (μ : Nat → Value) (l : List PV) (a : Act) : Prop where
  size : a.tmps.size = l.length
  each : ∀ t v, l[t]? = some v → VR w A ob μ v (a.tmps.getD t Go.undef)
theorem Slots.opd {w : World} {A : Nat → Prop} {ob : Nat → OB} {μ : Nat → Value} {S : St} {a : Act} (h : Slots w A ob μ S.slots a) (x : Operand) : VR w A ob μ (opd S x) (a.eval x) := by
  cases x with
  | tmp t =>
    simp only [Vm.opd, Act.eval]
    cases ht : S.slots[t]? with
    | some v =>
      have : S.slots.getD t .undef = v := by simp [List.getD, ht]
      rw [this]; exact h.each t v ht
    | none =>
      have h1 : S.slots.getD t .undef = .undef := by simp [List.getD, ht]
      have h2 : a.tmps.getD t Go.undef = Go.undef := by
        have : ¬ t < a.tmps.size := by rw [h.size]; simpa using ht
        simp [Array.getD, this]
      rw [h1, h2]; exact .mk_undef
  | const v => exact VR.ofConst v
  | global g => exact .mk_any _
  | func f =>
    show VR w A ob μ (.func f []) (.func (.func f) #[] #[])
    exact .of_one (by simp [CR, TRs]) rfl rfl

/-! ### What an operation comes to -/
def upd {α : Type} (f : Nat → α) (a : Nat) (b : α) : Nat → α := fun x => if x = a then b else f x
def addA (A : Nat → Prop) (v : Value) : Nat → Prop := fun b => A b ∨ blkOf v = some b
/-- the value, and the object that was made: nothing that was there has changed -/
def QR (w : World) (A : Nat → Prop) (ob : Nat → OB) (μ : Nat → Value) (al : Nat) (res : Result Next) (pv : PV) (nb : Option OB) : Prop :=
  ∃ v w', res = .ok (.value v) w' ∧ Keep None w w' ∧
    match nb with
    | none => VR w' A ob μ pv v
    | some b => ∃ mv, (∀ x, blkOf mv = some x → w.heap.size ≤ x ∧ x < w'.heap.size) ∧ OR w' (addA A mv) (upd ob al b) (upd μ al mv) al ∧ VR w' (addA A mv) (upd ob al b) (upd μ al mv) pv v
theorem QR.plain {w : World} {A : Nat → Prop} {ob : Nat → OB} {μ : Nat → Value} {al : Nat} {pv : PV} {v : Value} (h : VR w A ob μ pv v) : QR w A ob μ al (.ok (.value v) w) pv none :=
  ⟨v, w, rfl, Keep.refl _ _, h⟩

section
variable {P : Program} {E : Env} {w : World} {A : Nat → Prop} {μ : Nat → Value} {S : St} {a : Act} {o : Oper} {al : Nat} {ρ : Type} {r : ρ}
theorem optK_some {α : Type} {x : Option α} {K : α → Option ρ} (h : optK x K = some r) : ∃ y, x = some y ∧ K y = some r := by
  cases x with
  | none => cases h
  | some y => exact ⟨y, rfl, h⟩
theorem cond_none {b : Bool} {x : Option ρ} (h : cond b none x = some r) : b = false ∧ x = some r := by
  cases b
  · exact ⟨rfl, h⟩
  · cases h
theorem cond_some {b : Bool} {x : Option ρ} (h : cond b x none = some r) : b = true ∧ x = some r := by
  cases b with
  | false => cases h
  | true => exact ⟨rfl, h⟩

theorem run_cmp_slice_nil (w : World) (t e : TypeId) (a : Addr) (n c : Nat) (h : P.underlying t = some (.slice e)) :
    (binOp .eql t (.slice (some a) n c) (.slice none 0 0)).run P w = .ok (.bool false) w ∧ (binOp .neq t (.slice (some a) n c) (.slice none 0 0)).run P w = .ok (.bool true) w := by
  have h9 : ∀ d, (Op.equalIn (d + 1) t (.slice (some a) n c) (.slice none 0 0)).run P w = .ok false w := fun d => by
    simp [Op.equalIn, run_underlying h]
  constructor <;> simp only [binOp] <;> simp [Op.equal, Op.maxDepth, h9 9999]
theorem eqGuard_slice (op : BinOp) (t : TypeId) (x y : Operand) (a b : Option Addr) (n c m d : Nat) (K : Unit → World → Result Value) : ((eqGuard op t x y (.slice a n c) (.slice b m d)).run P w).andThen K = K () w := by
  unfold eqGuard
  cases op <;> simp [Result.andThen]
theorem bin_sound {okB okS : Bool} {op : BinOp} {x y : PV} {K : PV → Option ρ} (h : bin okB okS op x y K = some r) {u v : Value} (hx : VR w A S.ob μ x u) (hy : VR w A S.ob μ y v) (t : TypeId) (x0 y0 : Operand) (hB : okB = true → P.underlying t = some .bool) (hSl : okS = true → ∃ e, P.underlying t = some (.slice e)) :
    ∃ pv z, K pv = some r ∧ (do eqGuard op t x0 y0 u v; binOp op t u v : Sem Value).run P w = .ok z w ∧ VR w A S.ob μ pv z := by
  unfold bin at h
  split at h
  · rename_i k a' k' b' 
    have e1 := hx.int; have e2 := hy.int; subst e1 e2
    split at h
    · rename_i hk; subst hk
      rw [eqGuard_at_int]
      split at h
      · exact ⟨_, _, h, by simp [binOp, Op.intArith], .mk_int _ _⟩
      · exact ⟨_, _, h, by simp [binOp, Op.intArith], .mk_int _ _⟩
      · exact ⟨_, _, h, by simp [binOp, Op.intArith], .mk_int _ _⟩
      · cases hb : decide (b' = 0) <;> simp only [hb, cond_false, cond_true] at h
        · have hb' : ¬ b' = 0 := by simpa using hb
          exact ⟨_, _, h, by simp [binOp, Op.intDiv, hb'], .mk_int _ _⟩
        · cases h
      · cases hb : decide (b' = 0) <;> simp only [hb, cond_false, cond_true] at h
        · have hb' : ¬ b' = 0 := by simpa using hb
          exact ⟨_, _, h, by simp [binOp, Op.intDiv, hb'], .mk_int _ _⟩
        · cases h
      · exact ⟨_, _, h, by simp [binOp, Op.intCmp], .mk_bool _⟩
      · exact ⟨_, _, h, by simp [binOp, Op.intCmp], .mk_bool _⟩
      · exact ⟨_, _, h, by simp [binOp, Op.intCmp], .mk_bool _⟩
      · exact ⟨_, _, h, by simp [binOp, Op.intCmp], .mk_bool _⟩
      · exact ⟨_, _, h, by simp [binOp, Op.intCmp], .mk_bool _⟩
      · exact ⟨_, _, h, by simp [binOp, Op.intCmp], .mk_bool _⟩
      · cases h
    · cases h
  · rename_i a' b'
    have e1 := hx.str; have e2 := hy.str; subst e1 e2
    split at h
    · obtain ⟨hb, h⟩ := cond_some h
      have hb' : a'.size + b'.size < 4611686018427387904 := by simpa using hb
      refine ⟨_, _, h, ?_, .mk_str _ (by rw [ByteArray.size_append]; omega)⟩
      have hm : ¬ ((a'.size + b'.size : Nat) : Int) > IntKind.i64.max := by
        have : IntKind.i64.max = 9223372036854775807 := by decide
        rw [this]; omega
      simp only [binOp, Op.stringOp]
      rw [if_neg hm]
      simp [eqGuard]
    · exact ⟨_, _, h, by simp [binOp, Op.stringOp, eqGuard, sEq, sLt], .mk_bool _⟩
    · exact ⟨_, _, h, by simp [binOp, Op.stringOp, eqGuard, sEq, sLt], .mk_bool _⟩
    · exact ⟨_, _, h, by simp [binOp, Op.stringOp, eqGuard, sEq, sLt], .mk_bool _⟩
    · exact ⟨_, _, h, by simp [binOp, Op.stringOp, eqGuard, sEq, sLt], .mk_bool _⟩
    · exact ⟨_, _, h, by simp [binOp, Op.stringOp, eqGuard, sEq, sLt], .mk_bool _⟩
    · exact ⟨_, _, h, by simp [binOp, Op.stringOp, eqGuard, sEq, sLt], .mk_bool _⟩
    · cases h
  · rename_i a' b'
    have e1 := hx.bool; have e2 := hy.bool; subst e1 e2
    rw [eqGuard_at_bool]
    split at h
    · obtain ⟨hb, h⟩ := cond_some h
      exact ⟨_, _, h, by rw [Sem.run_bind]; exact run_eql_bool w t _ _ (hB hb), .mk_bool _⟩
    · obtain ⟨hb, h⟩ := cond_some h
      exact ⟨_, _, h, by rw [Sem.run_bind]; exact run_neq_bool w t _ _ (hB hb), .mk_bool _⟩
    · cases h
  · rename_i T xs
    have e2 := hy.nil
    subst e2
    have hd := hx.sl
    simp only [DR] at hd
    obtain ⟨a, c, e1, _, hd⟩ := hd
    simp only [List.cons.injEq, and_true] at e1
    subst e1
    unfold binSl at h
    split at h
    · obtain ⟨hs, h⟩ := cond_some h
      obtain ⟨e, he⟩ := hSl hs
      obtain ⟨hl, h⟩ := cond_none h
      have hne : xs ≠ [] := by rintro rfl; simp at hl
      obtain ⟨b, off, rfl, _⟩ := hd.resolve_left hne
      exact ⟨_, _, h, by rw [Sem.run_bind, eqGuard_slice]; exact (run_cmp_slice_nil w t e _ _ _ he).1, .mk_bool _⟩
    · obtain ⟨hs, h⟩ := cond_some h
      obtain ⟨e, he⟩ := hSl hs
      obtain ⟨hl, h⟩ := cond_none h
      have hne : xs ≠ [] := by rintro rfl; simp at hl
      obtain ⟨b, off, rfl, _⟩ := hd.resolve_left hne
      exact ⟨_, _, h, by rw [Sem.run_bind, eqGuard_slice]; exact (run_cmp_slice_nil w t e _ _ _ he).2, .mk_bool _⟩
    · cases h
  · cases h
end
end Go.Vm
