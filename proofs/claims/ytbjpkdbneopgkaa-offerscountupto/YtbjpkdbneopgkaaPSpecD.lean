/- OffersCount: names; the law. Own work. -/
import Derived.Test.YtbjpkdbneopgkaaPSpecC
import Derived.Test.YtbjpkdbneopgkaaPGate
set_option maxRecDepth 100000
set_option linter.unusedVariables false
set_option linter.unusedSimpArgs false
namespace Go.Vm
open Go.RowKit
theorem zip_none {α : Type} {ne : α → α → Bool} (hne : ∀ a b, ne a b = false ↔ a = b) : ∀ {a b : List α}, a.length = b.length → ((List.zip a b).findIdx? (fun q => ne q.1 q.2) = none ↔ a = b)
  | [], [], _ => by simp
  | [], _ :: _, h => by simp at h
  | _ :: _, [], h => by simp at h
  | x :: a, y :: b, h => by
    have ih := zip_none hne (a := a) (b := b) (by simpa using h)
    simp only [List.zip_cons_cons, List.findIdx?_cons, List.cons.injEq]
    cases hq : ne x y
    · have := (hne x y).1 hq
      simp only [Bool.false_eq_true, if_false, Option.map_eq_none_iff, ih, this, true_and]
    · have : x ≠ y := fun e => by rw [(hne x y).2 e] at hq; cases hq
      simp [this]
open Classical in
noncomputable def s26 (a b : List ByteArray) : Bool := decide (a = b)
theorem h26 (a b : List ByteArray) (hw : WFs A26 (a, b, ())) : ∃ k, f26 k a b = some (s26 a b, ()) := by
  simp only [WFs, WF] at hw
  have hl : a.length ≤ 9223372036854775807 := hw.1.1
  clear hw
  refine ⟨a.length + 1, ?_⟩
  unfold f26 s26
  by_cases hlen : a.length = b.length
  · have e : ((a.length : Int) != (b.length : Int)) = false := by simp [hlen]
    simp only [e, cond_false]
    have hzl : (List.zip a b).length = a.length := by rw [List.length_zip]; omega
    rw [iter_find (s0 := (((0 : Int), ()), ())) (List.zip a b) (fun i => (((i : Int), ()), ())) (fun q => !sEq q.1 q.2) (fun i => .inl (false, ())) (.inr ((), ())) ?a1 ?a2 ?a3 ?a4]
    case a1 => rfl
    case a2 => omega
    case a3 =>
      intro j q hq
      obtain ⟨x, y⟩ := q
      obtain ⟨hx, hy⟩ := List.getElem?_zip_eq_some.1 hq
      simp only [lt_at hx, inR_at hx, inR_at hy, rd_at hx, rd_at hy, wrap_succ hx hl, cond_true]
      cases sEq x y <;> rfl
    case a4 => rw [hzl]; simp
    have := zip_none (ne := fun x y : ByteArray => !sEq x y) (fun x y => by rw [Bool.not_eq_false', sEq_iff]) hlen
    cases hf : (List.zip a b).findIdx? (fun q => !sEq q.1 q.2) with
    | none => simp [this.1 hf]
    | some i =>
      have : ¬ a = b := fun e => by rw [this.2 e] at hf; cases hf
      simp [this]
  · have e : ((a.length : Int) != (b.length : Int)) = true := by simp; omega
    have : ¬ a = b := fun e => hlen (by rw [e])
    simp [e, this]
theorem s26_self (l : List ByteArray) : s26 l l = true := by unfold s26; simp
/-! ### names -/
def s28 (l : List ByteArray) : Option (List ByteArray) := some (dedup sEq l)
theorem f28_eq (k : Nat) (xs : List ByteArray) : f28 k xs = compactF ByteArray.empty sEq (fun a b => !sEq a b) k xs := by kernel_rfl
theorem h28 (xs ys : List ByteArray) (hl : xs.length ≤ 9223372036854775807) (hw : WFs .nil ()) (hy : s28 xs = some ys) : ∃ k, f28 k xs = some ys := by
  unfold s28 at hy
  refine ⟨xs.length + 1, ?_⟩
  rw [← hy, f28_eq]
  exact compactF_ok (d := ByteArray.empty) (eq := sEq) (ne := fun a b => !sEq a b) (fun a b => rfl) xs hl
def s61 (o : Ofr) : ByteArray := o.1
theorem h61 (o : Ofr) (hw : WFs A61 (o, ())) : ∃ k, f61 k o = some (s61 o, ()) := ⟨0, rfl⟩
def s62 (o : Ofr) : ByteArray := o.2.1
theorem h62 (o : Ofr) (hw : WFs A62 (o, ())) : ∃ k, f62 k o = some (s62 o, ()) := ⟨0, rfl⟩
def s49 (o : Ofr) : ByteArray := o.1
theorem h49 (o : Ofr) (hw : WFs A49 (o, ())) : ∃ k, f49 k o = some (s49 o, ()) := ⟨0, rfl⟩
def s50 (o : Ofr) : ByteArray := o.2.1
theorem h50 (o : Ofr) (hw : WFs A50 (o, ())) : ∃ k, f50 k o = some (s50 o, ()) := ⟨0, rfl⟩
theorem fold_push {α β : Type} (f : α → β) : ∀ (l : List α) (acc : List β), l.foldl (fun b x => b ++ [f x]) acc = acc ++ l.map f
  | [], acc => by simp
  | x :: l, acc => by rw [List.foldl_cons, fold_push f l]; simp
def nm (f : Ofr → ByteArray) (l : List Ofr) : List ByteArray := dedup sEq (sortStrs (l.map f))
def nm? (f : Ofr → ByteArray) (l : List Ofr) : Option (List ByteArray × Unit) := if l.length ≤ 4294967296 then some (nm f l, ()) else none
theorem h_nm (f : Ofr → ByteArray) (l : List Ofr) (y : List ByteArray × Unit) (h : nm? f l = some y) : f39 s27 s28 f (l.length + 1) l = some y := by
  unfold nm? at h
  split at h
  rotate_left
  · cases h
  rename_i hn
  cases h
  unfold f39
  rw [iter_fold (s0 := (([], (0 : Int), ()), ())) l (fun (j : Nat) (acc : List ByteArray) => ((acc, (j : Int), ()), ())) (fun x acc => acc ++ [f x]) (fun acc => .inr ((acc, ()), ())) (fun j acc => acc.length = j) [] rfl rfl (by omega) (fun j x acc hx hj => by simp [hj]) ?a1 ?a2]
  case a1 =>
    intro j x acc hx hj
    have hlt := (List.getElem?_eq_some_iff.1 hx).1
    have e : decide (List.length acc + List.length [f x] ≤ 4294967296) = true := decide_eq_true (by simp only [List.length_cons, List.length_nil]; omega)
    simp only [lt_at hx, inR_at hx, rd_at hx, wrap_succ hx (by omega), cond_true, e]
  case a2 => intro acc hj; simp only [Int.lt_irrefl, decide_false, cond_false]
  rw [fold_push]
  simp only [Option.bind_some, List.nil_append, s27, sortStrs?, List.length_map]
  rw [if_pos (by omega)]
  rfl
def s39 (l : List Ofr) := nm? s61 l
theorem h39 (l : List Ofr) (y : List ByteArray × Unit) (hw : WFs A39 (l, ())) (h : s39 l = some y) : ∃ k, f39 s27 s28 s61 k l = some y := ⟨_, h_nm _ l y h⟩
def s40 (l : List Ofr) := nm? s62 l
theorem f40_eq (g27 g28 : List ByteArray → Option (List ByteArray)) (g : Ofr → ByteArray) (k : Nat) (l : List Ofr) : f40 g27 g28 g k l = f39 g27 g28 g k l := by kernel_rfl
theorem f23_eq (g27 g28 : List ByteArray → Option (List ByteArray)) (g : Ofr → ByteArray) (k : Nat) (l : List Ofr) : f23 g27 g28 g k l = f39 g27 g28 g k l := by kernel_rfl
theorem f24_eq (g27 g28 : List ByteArray → Option (List ByteArray)) (g : Ofr → ByteArray) (k : Nat) (l : List Ofr) : f24 g27 g28 g k l = f39 g27 g28 g k l := by kernel_rfl
theorem h40 (l : List Ofr) (y : List ByteArray × Unit) (hw : WFs A40 (l, ())) (h : s40 l = some y) : ∃ k, f40 s27 s28 s62 k l = some y := ⟨_, (f40_eq _ _ _ _ _).trans (h_nm _ l y h)⟩
def s23 (l : List Ofr) := nm? s49 l
theorem h23 (l : List Ofr) (y : List ByteArray × Unit) (hw : WFs A23 (l, ())) (h : s23 l = some y) : ∃ k, f23 s27 s28 s49 k l = some y := ⟨_, (f23_eq _ _ _ _ _).trans (h_nm _ l y h)⟩
def s24 (l : List Ofr) := nm? s50 l
theorem h24 (l : List Ofr) (y : List ByteArray × Unit) (hw : WFs A24 (l, ())) (h : s24 l = some y) : ∃ k, f24 s27 s28 s50 k l = some y := ⟨_, (f24_eq _ _ _ _ _).trans (h_nm _ l y h)⟩
/-! ### the law -/
def cl (f : Ofr → ByteArray) (l : List Ofr) : Option (List ByteArray × Int × Unit) := if l.length ≤ 4294967296 then some (bif ofrsFault l != 0 then ([], ofrsFault l, ()) else (nm f l, (0 : Int), ())) else none
def s14 (l : List Ofr) := cl s61 l
def s16 (l : List Ofr) := cl s62 l
theorem h14 (l : List Ofr) (y : List ByteArray × Int × Unit) (hw : WFs A14 (l, ())) (h : s14 l = some y) : ∃ k, f14 s21 s39 k l = some y := ⟨0, by
  unfold s14 cl at h
  split at h
  rotate_left
  · cases h
  rename_i hn
  cases h
  unfold f14
  rw [show s21 l = ofrsFault l from rfl, show s39 l = some (nm s61 l, ()) from if_pos hn]
  cases ofrsFault l != 0 <;> rfl⟩
theorem h16 (l : List Ofr) (y : List ByteArray × Int × Unit) (hw : WFs A16 (l, ())) (h : s16 l = some y) : ∃ k, f16 s21 s40 k l = some y := ⟨0, by
  unfold s16 cl at h
  split at h
  rotate_left
  · cases h
  rename_i hn
  cases h
  unfold f16
  rw [show s21 l = ofrsFault l from rfl, show s40 l = some (nm s62 l, ()) from if_pos hn]
  cases ofrsFault l != 0 <;> rfl⟩
def bothF (l : List Ofr) (d : List Dl) : Int := bif ofrsFault l != 0 then ofrsFault l else dealsF l d
noncomputable def s17 (l : List Ofr) (d : List Dl) : Option PT0 := some (bif bothF l d != 0 then ((0 : Int), bothF l d, ()) else (costSum l d, (0 : Int), ()))
theorem both_zero {l : List Ofr} {d : List Dl} (h : bothF l d = 0) : ofrsFault l = 0 ∧ dealsF l d = 0 := by
  unfold bothF at h
  cases hF : ofrsFault l != 0
  · rw [hF, cond_false] at h
    exact ⟨by simpa using hF, h⟩
  · rw [hF, cond_true] at h
    rw [h] at hF; cases hF
theorem h17 (l : List Ofr) (d : List Dl) (y : PT0) (hw : WFs A17 (l, d, ())) (h : s17 l d = some y) : ∃ k, f17 s22 s41 k l d = some y := ⟨0, by
  unfold s17 at h
  cases h
  unfold f17
  rw [show s22 l d = some (bothF l d, ()) from rfl]
  simp only [Option.bind_some]
  cases hb : bothF l d != 0
  · have h0 : bothF l d = 0 := by simpa using hb
    obtain ⟨h1, h2⟩ := both_zero h0
    rw [show s41 l d = some (costSum l d, ()) from if_pos ⟨h1, found_of h2⟩]
    rfl
  · rfl⟩
def s4 (l : List Ofr) (d : List Dl) : Option (Bool × Unit) := if l.length ≤ 4294967296 ∧ d.length ≤ 4294967296 then some (true, ()) else none
theorem h4 (l : List Ofr) (d : List Dl) (y : Bool × Unit) (hw : WFs A4 (l, d, ())) (h : s4 l d = some y) : ∃ k, f4 s13 s14 s15 s16 s17 s18 s19 s20 s21 s22 s23 s24 s25 s26 k l d = some y := ⟨0, by
  unfold s4 at h
  split at h
  rotate_left
  · cases h
  rename_i hn
  obtain ⟨hn, hd⟩ := hn
  cases h
  unfold f4
  have e15 : s15 l = some (l, ()) := if_pos hn
  have e18 : s18 d = some (d, ()) := if_pos hd
  have e14 : s14 l = some (bif ofrsFault l != 0 then ([], ofrsFault l, ()) else (nm s61 l, (0 : Int), ())) := if_pos hn
  have e16 : s16 l = some (bif ofrsFault l != 0 then ([], ofrsFault l, ()) else (nm s62 l, (0 : Int), ())) := if_pos hn
  have e23 : s23 l = some (nm s49 l, ()) := if_pos hn
  have e24 : s24 l = some (nm s50 l, ()) := if_pos hn
  have e22 : s22 l d = some (bothF l d, ()) := rfl
  have e20 : s20 l d = some (dealsF l d, ()) := rfl
  have e17 : s17 l d = some (bif bothF l d != 0 then ((0 : Int), bothF l d, ()) else (costSum l d, (0 : Int), ())) := rfl
  have e13 : s13 = some (true, ()) := rfl
  simp only [e15, e18, e14, e16, e17, e20, e22, e23, e24, e13, Option.bind_some, show s19 l = ofrsFault l from rfl, show s21 l = ofrsFault l from rfl]
  have n61 : nm s61 l = nm s49 l := rfl
  have n62 : nm s62 l = nm s50 l := rfl
  cases hF : ofrsFault l != 0
  · have hF0 : ofrsFault l = 0 := by simpa using hF
    have hb : bothF l d = dealsF l d := by unfold bothF; rw [hF]; rfl
    simp only [hF0, hb, beq_self_eq_true, bne_self_eq_false, cond_true, cond_false, Option.bind_some]
    cases hD : dealsF l d != 0
    · have hD0 : dealsF l d = 0 := by simpa using hD
      rw [show s25 l d = some (costSum l d, ()) from if_pos (found_of hD0)]
      simp only [hD0, beq_self_eq_true, bne_self_eq_false, cond_true, cond_false, Option.bind_some, n61, n62, s26_self]
    · have hD1 : (dealsF l d == 0) = false := by simpa using hD
      simp only [hD1, beq_self_eq_true, bne_self_eq_false, cond_true, cond_false, Option.bind_some, n61, n62, s26_self]
  · have hF1 : (ofrsFault l == 0) = false := by simpa using hF
    have hb : bothF l d = ofrsFault l := by unfold bothF; rw [hF]; rfl
    simp only [hF1, hF, hb, beq_self_eq_true, bne_self_eq_false, cond_true, cond_false, Option.bind_some, s26_self]⟩
end Go.Vm
