/- Vm, part 23: types are as they are said, by a check. Own work. -/
import Derived.Test.YtfiembgemhonlaaVmFun
import Derived.KernelRfl
set_option linter.unusedVariables false
set_option linter.unusedSimpArgs false
namespace Go.Vm
open Go.RowKit
def leafZ : Value → Value → Bool
  | .int k x, .int k' y => decide (k = k') && decide (x = y)
  | .bool a, .bool b => cond a b (!b)
  | .string s, .string t => s.data.toList.isEmpty && t.data.toList.isEmpty
  | .slice none 0 0, .slice none 0 0 => true
  | .pointer none, .pointer none => true
  | .nilFunc, .nilFunc => true
  | .map none, .map none => true
  | .nilIface, .nilIface => true
  | _, _ => false
def leafZs : List Value → List Value → Bool
  | [], [] => true
  | a :: l, b :: m => leafZ a b && leafZs l m
  | _, _ => false
theorem leafZ_eq {a b : Value} (h : leafZ a b = true) : a = b := by
  unfold leafZ at h
  split at h
  · simp only [Bool.and_eq_true, decide_eq_true_eq] at h
    rw [h.1, h.2]
  · rename_i a b; cases a <;> cases b <;> simp at h <;> rfl
  · rename_i s t
    simp only [Bool.and_eq_true, List.isEmpty_iff, Array.toList_eq_nil_iff] at h
    cases s; cases t
    simp at h
    rw [h.1, h.2]
  all_goals first | rfl | cases h
theorem leafZs_eq : ∀ {l m : List Value}, leafZs l m = true → l = m
  | [], [], _ => rfl
  | a :: l, b :: m, h => by
    simp only [leafZs, Bool.and_eq_true] at h
    rw [leafZ_eq h.1, leafZs_eq h.2]
  | [], _ :: _, h => by cases h
  | _ :: _, [], h => by cases h
def infoOK (P : Program) (t : TypeId) (n : Nat) (agg : Bool) (zs : List Value) : Bool :=
  match P.info? t with
  | some i => Nat.beq i.size n && (Nat.ble i.bytes 16384 && (match i.zero with
    | some z => match agg with
      | true => match z with
        | .agg cs => leafZs cs.toList zs
        | _ => false
      | false => match zs with
        | [x] => leafZ z x
        | _ => false
    | none => false))
  | none => false
theorem infoOK_agg {P : Program} {t : TypeId} {n : Nat} {zs : List Value} (h : infoOK P t n true zs = true) : ∃ i, P.info? t = some i ∧ i.size = n ∧ i.zero = some (.agg zs.toArray) ∧ i.bytes ≤ 16384 := by
  unfold infoOK at h
  split at h
  · rename_i i hi
    simp only [Bool.and_eq_true] at h
    obtain ⟨h1, h2, h3⟩ := h
    refine ⟨i, hi, Nat.eq_of_beq_eq_true h1, ?_, Nat.le_of_ble_eq_true h2⟩
    split at h3
    · rename_i z hz
      split at h3
      · rename_i cs
        rw [hz, ← leafZs_eq h3]
      · cases h3
    · cases h3
  · cases h
theorem infoOK_leaf {P : Program} {t : TypeId} {n : Nat} {z0 : Value} (h : infoOK P t n false [z0] = true) : ∃ i, P.info? t = some i ∧ i.size = n ∧ i.zero = some z0 ∧ i.bytes ≤ 16384 := by
  unfold infoOK at h
  split at h
  · rename_i i hi
    simp only [Bool.and_eq_true] at h
    obtain ⟨h1, h2, h3⟩ := h
    refine ⟨i, hi, Nat.eq_of_beq_eq_true h1, ?_, Nat.le_of_ble_eq_true h2⟩
    split at h3
    · rename_i z hz
      rw [hz, leafZ_eq h3]
    · cases h3
  · cases h
mutual
def chkTy (P : Program) (t : TypeId) : Ty → Bool
  | .int k => infoOK P t 1 false [.int k 0] && (match P.underlying t with | some (.int k') => decide (k' = k) | _ => false)
  | .bool => infoOK P t 1 false [.bool false] && (match P.underlying t with | some .bool => true | _ => false)
  | .str => infoOK P t 1 false [.string ⟨#[]⟩] && (match P.underlying t with | some .string => true | _ => false)
  | .slice T => infoOK P t 1 false [.slice none 0 0] && (match P.underlying t with | some (.slice e) => chkTy P e T && Nat.blt 0 T.cells | _ => false)
  | .struct fs => infoOK P t fs.cells true (zerosV fs) && (match P.underlying t with | some (.struct fields) => chkTys P fields.toList 0 fs | _ => false)
def chkTys (P : Program) (fields : List Field) (off : Nat) : Tys → Bool
  | .nil => fields.isEmpty
  | .cons t ts => match fields with
    | f :: l => Nat.beq f.offset off && (Nat.blt 0 t.cells && (chkTy P f.type t && chkTys P l (off + t.cells) ts))
    | [] => false
end
mutual
def chkTD (P : Program) (t : TypeId) : TD → Bool
  | .data T => chkTy P t T
  | .cell k => infoOK P t 1 false [nilV k] && (match P.underlying t with | some d => (match d with | .struct _ | .array _ _ => false | _ => true) | none => false)
  | .agg l => infoOK P t l.cells true l.zeroV && (match P.underlying t with | some (.struct fields) => chkTDs P fields.toList 0 l | _ => false)
def chkTDs (P : Program) (fields : List Field) (off : Nat) : TDs → Bool
  | .nil => fields.isEmpty
  | .cons t ts => match fields with
    | f :: l => Nat.beq f.offset off && (Nat.blt 0 t.cells && (chkTD P f.type t && chkTDs P l (off + t.cells) ts))
    | [] => false
end
mutual
theorem chkTy_ok {P : Program} : ∀ (T : Ty) (t : TypeId), chkTy P t T = true → TyOK P t T
  | .int k, t, h => by
    simp only [chkTy, Bool.and_eq_true] at h
    refine ⟨infoOK_leaf h.1, ?_⟩
    have := h.2
    split at this
    · rename_i k' hk; rw [hk, of_decide_eq_true this]
    · cases this
  | .bool, t, h => by
    simp only [chkTy, Bool.and_eq_true] at h
    refine ⟨infoOK_leaf h.1, ?_⟩
    have := h.2
    split at this
    · rename_i hk; exact hk
    · cases this
  | .str, t, h => by
    simp only [chkTy, Bool.and_eq_true] at h
    refine ⟨infoOK_leaf h.1, ?_⟩
    have := h.2
    split at this
    · rename_i hk; exact hk
    · cases this
  | .slice T, t, h => by
    simp only [chkTy, Bool.and_eq_true] at h
    simp only [TyOK]
    refine ⟨infoOK_leaf h.1, ?_⟩
    have h2 := h.2
    split at h2
    · rename_i e he
      simp only [Bool.and_eq_true] at h2
      exact ⟨e, he, chkTy_ok T e h2.1, by simpa using h2.2⟩
    · cases h2
  | .struct fs, t, h => by
    simp only [chkTy, Bool.and_eq_true] at h
    simp only [TyOK]
    refine ⟨infoOK_agg h.1, ?_⟩
    have h2 := h.2
    split at h2
    · rename_i fields he
      exact ⟨fields, he, chkTys_ok fs fields.toList 0 h2⟩
    · cases h2
theorem chkTys_ok {P : Program} : ∀ (T : Tys) (fields : List Field) (off : Nat), chkTys P fields off T = true → TysOK P fields off T
  | .nil, fields, off, h => by
    simp only [chkTys, List.isEmpty_iff] at h
    subst h
    simp only [TysOK]
  | .cons t ts, fields, off, h => by
    simp only [chkTys] at h
    split at h
    · rename_i f l
      simp only [Bool.and_eq_true] at h
      simp only [TysOK]
      exact ⟨Nat.eq_of_beq_eq_true h.1, by simpa using h.2.1, chkTy_ok t _ h.2.2.1, chkTys_ok ts l _ h.2.2.2⟩
    · cases h
end
mutual
theorem chkTD_ok {P : Program} : ∀ (T : TD) (t : TypeId), chkTD P t T = true → TDOK P t T
  | .data T, t, h => by simp only [chkTD] at h; simp only [TDOK]; exact chkTy_ok T t h
  | .cell k, t, h => by
    simp only [chkTD, Bool.and_eq_true] at h
    simp only [TDOK]
    refine ⟨infoOK_leaf h.1, ?_⟩
    have h2 := h.2
    split at h2
    · rename_i d hd
      exact ⟨d, hd, by split at h2 <;> simp_all⟩
    · cases h2
  | .agg fs, t, h => by
    simp only [chkTD, Bool.and_eq_true] at h
    simp only [TDOK]
    refine ⟨infoOK_agg h.1, ?_⟩
    have h2 := h.2
    split at h2
    · rename_i fields he
      exact ⟨fields, he, chkTDs_ok fs fields.toList 0 h2⟩
    · cases h2
theorem chkTDs_ok {P : Program} : ∀ (T : TDs) (fields : List Field) (off : Nat), chkTDs P fields off T = true → TDsOK P fields off T
  | .nil, fields, off, h => by
    simp only [chkTDs, List.isEmpty_iff] at h
    subst h
    simp only [TDsOK]
  | .cons t ts, fields, off, h => by
    simp only [chkTDs] at h
    split at h
    · rename_i f l
      simp only [Bool.and_eq_true] at h
      simp only [TDsOK]
      exact ⟨Nat.eq_of_beq_eq_true h.1, by simpa using h.2.1, chkTD_ok t _ h.2.2.1, chkTDs_ok ts l _ h.2.2.2⟩
    · cases h
end
/-- types by number -/
def types : List (Nat × TD) → Nat → Option TD
  | [], _ => none
  | p :: l, t => cond (Nat.beq p.1 t) (some p.2) (types l t)
def chkTypes (P : Program) : List (Nat × TD) → Bool
  | [] => true
  | p :: l => chkTD P p.1 p.2 && chkTypes P l
theorem types_ok {P : Program} : ∀ (l : List (Nat × TD)), chkTypes P l = true → ∀ t d, types l t = some d → TDOK P t d
  | [], _, t, d, h => by cases h
  | p :: l, hc, t, d, h => by
    simp only [chkTypes, Bool.and_eq_true] at hc
    simp only [types] at h
    by_cases e : p.1 = t
    · subst e
      simp only [Nat.beq_refl, cond_true, Option.some.injEq] at h
      subst h
      exact chkTD_ok _ _ hc.1
    · have : Nat.beq p.1 t = false := by rw [← Bool.not_eq_true]; simpa using e
      rw [this] at h
      exact types_ok l hc.2 t d h
/-- an environment from tables -/
def mkEnv (ts : List (Nat × TD)) (fs : List (Nat × FSem)) : Env := ⟨types ts, calls fs⟩
theorem mkEnv_ok {P : Program} {ts : List (Nat × TD)} {fs : List (Nat × FSem)} (h : chkTypes P ts = true) (hf : ∀ p ∈ fs, SoundF P p.1 p.2) : EnvOK P (mkEnv ts fs) :=
  ⟨types_ok ts h, calls_sound fs hf⟩
end Go.Vm
