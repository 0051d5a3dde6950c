/- RidesAskedTwice: rides of one rider at one time; the law. Own work. -/
import Derived.Test.YtfiembgemhonlaaDoorTSpecA
set_option linter.unusedVariables false
set_option linter.unusedSimpArgs false
namespace Go.Vm
open Go.RowKit Go.Vm.Gain
def twB (a b : Rr) : Bool := sEq a.2.1 b.2.1 && s43 a b
def twRow (a b : Rr) : List Pr := bif twB a b then [(a.1, b.1, ())] else []
def twI (a : Rr) (l : List Rr) : List Pr := l.flatMap (twRow a)
def twice : List Rr → List Pr
  | [] => []
  | a :: l => twI a l ++ twice l
theorem twRow_len (a b : Rr) : (twRow a b).length ≤ 1 := by
  unfold twRow
  cases twB a b <;> simp
theorem twI_len (a : Rr) : ∀ (l : List Rr), (twI a l).length ≤ l.length
  | [] => by simp [twI]
  | b :: l => by
    have h1 := twRow_len a b
    have h2 := twI_len a l
    unfold twI at *
    simp only [List.flatMap_cons, List.length_append, List.length_cons]
    omega
/-- what the inner loop comes to -/
theorem tw_inner {ρ : Type} (a : Rr) (l : List Rr) (o : List Pr) (ho : o.length + l.length ≤ 4294967296) {k : Nat} (hk : l.length < k) {f : (List Pr × Int × Unit) × Unit → Option (((List Pr × Int × Unit) × Unit) ⊕ (ρ ⊕ ((List Pr × Unit) × Unit)))}
    (h1 : ∀ (j : Nat) (b : Rr) (o : List Pr), l[j]? = some b → o.length < 4294967296 → f ((o, (j : Int), ()), ()) = some (.inl ((o ++ twRow a b, ((j + 1 : Nat) : Int), ()), ())))
    (h2 : ∀ o, f ((o, (l.length : Int), ()), ()) = some (.inr (.inr ((o, ()), ())))) :
    iter k f ((o, (0 : Int), ()), ()) = some (.inr ((o ++ twI a l, ()), ())) := by
  rw [iter_scanI (s0 := ((o, (0 : Int), ()), ())) (β := List Pr) l (fun j o => ((o, (j : Int), ()), ())) (fun _ b o => .inl (o ++ twRow a b)) (fun o => .inr ((o, ()), ())) (fun j q => q.length ≤ o.length + j) o (Nat.le_refl _) rfl hk ?a0 ?a1 (fun o _ => h2 o)]
  case a0 =>
    intro j x q q' hx hJ hs
    cases hs
    have := twRow_len a x
    rw [List.length_append]
    omega
  case a1 =>
    intro j x q hx hJ
    have hj := (List.getElem?_eq_some_iff.1 hx).1
    exact h1 j x q hx (by omega)
  rw [scan_fold0 (fun (b : Rr) (o : List Pr) => o ++ twRow a b)]
  have : ∀ (l : List Rr) (o : List Pr), l.foldl (fun (o : List Pr) (b : Rr) => o ++ twRow a b) o = o ++ twI a l := by
    intro l
    induction l with
    | nil => intro o; simp [twI]
    | cons b l ih => intro o; rw [List.foldl_cons, ih]; simp [twI]
  rw [this]
/-- .. and the outer one -/
theorem tw_outer {ρ : Type} (xs : List Rr) (hl : xs.length ≤ 1000) {k : Nat} (hk : xs.length < k) {f : (List Pr × Int × Unit) × Unit → Option (((List Pr × Int × Unit) × Unit) ⊕ (ρ ⊕ ((List Pr × Unit) × Unit)))}
    (h1 : ∀ (j : Nat) (a : Rr) (o : List Pr), xs[j]? = some a → o.length ≤ 1000000 → f ((o, (j : Int), ()), ()) = some (.inl ((o ++ twI a (xs.drop (j + 1)), ((j + 1 : Nat) : Int), ()), ())))
    (h2 : ∀ o, f ((o, (xs.length : Int), ()), ()) = some (.inr (.inr ((o, ()), ())))) :
    iter k f (([], (0 : Int), ()), ()) = some (.inr ((twice xs, ()), ())) := by
  have key : ∀ (l : List Rr) (j k : Nat) (o : List Pr), xs.drop j = l → j ≤ xs.length → l.length < k → o.length ≤ 1000 * j →
      iter k f ((o, (j : Int), ()), ()) = some (.inr ((o ++ twice l, ()), ())) := by
    intro l
    induction l with
    | nil =>
      intro j k o hl' hj hk _
      have : j = xs.length := by
        have := List.drop_eq_nil_iff.1 hl'
        omega
      subst this
      cases k with
      | zero => omega
      | succ k => simp only [iter, h2, Option.bind_some, twice, List.append_nil]
    | cons x l ih =>
      intro j k o hl' hj hk hJ
      have hx : xs[j]? = some x := by rw [← List.head?_drop, hl']; rfl
      have hlt : j < xs.length := (List.getElem?_eq_some_iff.1 hx).1
      have hl2 : xs.drop (j + 1) = l := by rw [← List.drop_drop, hl']; rfl
      have hlen : l.length ≤ 1000 := by rw [← hl2, List.length_drop]; omega
      have hi := twI_len x l
      cases k with
      | zero => omega
      | succ k =>
        simp only [iter, h1 j x o hx (by omega), Option.bind_some, hl2]
        rw [ih (j + 1) k _ hl2 (by omega) (by simp at hk; omega) (by rw [List.length_append]; omega)]
        simp [twice]
  exact key xs 0 k [] rfl (Nat.zero_le _) hk (Nat.zero_le _)
theorem rides_short {l : List Rr} (h : ridesFault l = 0) : l.length ≤ 1000 := by
  unfold ridesFault at h
  split at h
  · cases h
  · omega
def s22 (l : List Rr) : Option (List Pr × Unit) := if l.length ≤ 1000 then some (twice l, ()) else none
theorem h22 (l : List Rr) (y : List Pr × Unit) (hw : WFs A22 (l, ())) (h : s22 l = some y) : ∃ k, f22 s45 k l = some y := by
  clear hw
  unfold s22 at h
  split at h
  rotate_left
  · cases h
  rename_i hlen
  cases h
  have hl : l.length ≤ 9223372036854775807 := by omega
  refine ⟨l.length + 1, ?_⟩
  unfold f22
  rw [tw_outer l hlen (Nat.lt_succ_self _) ?a1 ?a2]
  case a2 => intro o; simp
  case a1 =>
    intro j a o hx ho
    have hj := (List.getElem?_eq_some_iff.1 hx).1
    have c1 : (decide (0 ≤ (((j + 1 : Nat)) : Int)) && (decide ((((j + 1 : Nat)) : Int) ≤ (l.length : Int)) && decide ((l.length : Int) ≤ (l.length : Int)))) = true := by
      rw [decide_eq_true (by omega), decide_eq_true (by omega), decide_eq_true (by omega)]; rfl
    simp only [lt_at hx, inR_at hx, rd_at hx, wrap_succ hx hl, cond_true, c1, Int.toNat_natCast, List.take_length]
    have hdl : (l.drop (j + 1)).length ≤ 9223372036854775807 := by rw [List.length_drop]; omega
    rw [tw_inner a (l.drop (j + 1)) o (by rw [List.length_drop]; omega) (by rw [List.length_drop]; omega) ?b1 ?b2]
    case b2 => intro o; simp
    case b1 =>
      intro i b q hb hq
      simp only [lt_at hb, inR_at hb, rd_at hb, wrap_succ hb hdl, cond_true, twRow, twB]
      cases sEq a.2.1 b.2.1
      · simp
      · simp only [cond_true, Bool.true_and, show s45 = s43 from rfl]
        cases s43 a b
        · simp
        · simp only [cond_true]
          rw [decide_eq_true (by simp only [List.length_cons, List.length_nil]; omega)]
          rfl
    rfl
  rfl
def s19 (l : List Rr) : Option (List Pr × Int × Unit) := some (bif ridesFault l != 0 then ([], ridesFault l, ()) else (twice l, 0, ()))
theorem h19 (l : List Rr) (y : List Pr × Int × Unit) (hw : WFs A19 (l, ())) (h : s19 l = some y) : ∃ k, f19 s42 s43 k l = some y := by
  simp only [WFs, WF] at hw
  have hl : l.length ≤ 9223372036854775807 := hw.1.1
  clear hw
  cases h
  refine ⟨l.length + 1, ?_⟩
  unfold f19 ridesFault
  rw [show (1000 : Int) = ((1000 : Nat) : Int) from rfl, len_gt]
  by_cases hn : l.length > 1000
  · simp [hn]
  · simp only [hn, decide_false, cond_false, if_false]
    have hlen : l.length ≤ 1000 := by omega
    rw [iter_chkG (xs := l) rideBad idLe (fun z => (([] : List Pr), z, ())) ?a1 ?a2]
    case a2 => simp
    case a1 =>
      intro j x p hx hp
      simp only [lt_at hx, inR_at hx, rd_at hx, wrap_succ hx hl, cond_true, show s42 = rideBad from rfl]
      exact ride_step (fun z => (([] : List Pr), z, ())) hl hx hp
    cases hc : chkP rideBad idLe none l != 0
    rotate_left
    · rfl
    simp only [cond_false, Option.bind_some]
    rw [tw_outer l hlen (Nat.lt_succ_self _) ?c1 ?c2]
    case c2 => intro o; simp
    case c1 =>
      intro j a o hx ho
      have hj := (List.getElem?_eq_some_iff.1 hx).1
      have c1 : (decide (0 ≤ (((j + 1 : Nat)) : Int)) && (decide ((((j + 1 : Nat)) : Int) ≤ (l.length : Int)) && decide ((l.length : Int) ≤ (l.length : Int)))) = true := by
        rw [decide_eq_true (by omega), decide_eq_true (by omega), decide_eq_true (by omega)]; rfl
      simp only [lt_at hx, inR_at hx, rd_at hx, wrap_succ hx hl, cond_true, c1, Int.toNat_natCast, List.take_length]
      have hdl : (l.drop (j + 1)).length ≤ 9223372036854775807 := by rw [List.length_drop]; omega
      rw [tw_inner a (l.drop (j + 1)) o (by rw [List.length_drop]; omega) (by rw [List.length_drop]; omega) ?b1 ?b2]
      case b2 => intro o; simp
      case b1 =>
        intro i b q hb hq
        simp only [lt_at hb, inR_at hb, rd_at hb, wrap_succ hb hdl, cond_true, twRow, twB]
        cases sEq a.2.1 b.2.1
        · simp
        · simp only [cond_true, Bool.true_and]
          cases s43 a b
          · simp
          · simp only [cond_true]
            rw [decide_eq_true (by simp only [List.length_cons, List.length_nil]; omega)]
            rfl
      rfl
    rfl
/-! ### days are counted -/
def s83 (l : List TT2) : Option (Int × Unit) := f83 s40 5 l
theorem h83 (l : List TT2) (y : Int × Unit) (hw : WFs A83 (l, ())) (h : s83 l = some y) : ∃ k, f83 s40 k l = some y := ⟨5, h⟩
abbrev Sr : Type := ByteArray × ByteArray × ByteArray × ByteArray × Int × Int × Int × Int × Int × Int × Int × Int × Int × List TT2 × Unit
def s69 (x : Sr) : Option (Int × Unit) := f69 s40 s57 s83 0 x
theorem h69 (x : Sr) (y : Int × Unit) (hw : WFs A69 (x, ())) (h : s69 x = some y) : ∃ k, f69 s40 s57 s83 k x = some y := ⟨0, h⟩
def s58 (l : List Sr) : Option (Int × Unit) := f58 s69 5 l
theorem h58 (l : List Sr) (y : Int × Unit) (hw : WFs A58 (l, ())) (h : s58 l = some y) : ∃ k, f58 s69 k l = some y := ⟨5, h⟩
def s71 (c : TT2) (d : Int) : Int := s39 c.1 d
theorem h71 (c : TT2) (d : Int) (hw : WFs A71 (c, d, ())) : ∃ k, f71 s39 k c d = some (s71 c d, ()) := ⟨0, rfl⟩
def s46 (x : Sr) : Option (List Int × Int × Unit) := f46 s30 s37 s58 s71 s73 20 x
theorem h46 (x : Sr) (y : List Int × Int × Unit) (hw : WFs A46 (x, ())) (h : s46 x = some y) : ∃ k, f46 s30 s37 s58 s71 s73 k x = some y := ⟨20, h⟩
def s47 (a b : List Int) : Bool := decide (a = b)
theorem h47 (a b : List Int) (hw : WFs A47 (a, b, ())) : ∃ k, f47 k a b = some (s47 a b, ()) := by
  simp only [WFs, WF] at hw
  have hl : a.length ≤ 9223372036854775807 := hw.1.1
  clear hw
  refine ⟨a.length + 1, ?_⟩
  unfold f47 s47
  by_cases hlen : a.length = b.length
  · have e : ((a.length : Int) != (b.length : Int)) = false := by simp [hlen]
    simp only [e, cond_false]
    have hzl : (List.zip a b).length = a.length := by rw [List.length_zip]; omega
    rw [iter_find (s0 := (((0 : Int), ()), ())) (List.zip a b) (fun i => (((i : Int), ()), ())) (fun q => q.1 != q.2) (fun i => .inl (false, ())) (.inr ((), ())) ?a1 ?a2 ?a3 ?a4]
    case a1 => rfl
    case a2 => omega
    case a3 =>
      intro j q hq
      obtain ⟨x, y⟩ := q
      obtain ⟨hx, hy⟩ := List.getElem?_zip_eq_some.1 hq
      simp only [lt_at hx, inR_at hx, inR_at hy, rd_at hx, rd_at hy, wrap_succ hx hl, cond_true]
      cases x != y <;> rfl
    case a4 => rw [hzl]; simp
    have := zip_none (ne := fun x y : Int => x != y) (fun x y => by simp) hlen
    cases hf : (List.zip a b).findIdx? (fun q => q.1 != q.2) with
    | none => simp [this.1 hf]
    | some i =>
      have : ¬ a = b := fun e => by rw [this.2 e] at hf; cases hf
      simp [this]
  · have e : ((a.length : Int) != (b.length : Int)) = true := by simp; omega
    have : ¬ a = b := fun e => hlen (by rw [e])
    simp [e, this]
def s26 : Option (Bool × Unit) := f26 s46 s47 0
theorem h26 (y : Bool × Unit) (hw : WFs A26 ()) (h : s26 = some y) : ∃ k, f26 s46 s47 k = some y := ⟨0, h⟩
theorem s26_true : s26 = some (true, ()) := by decide +kernel
/-! ### the law -/
def s4 (x : List Rr) (rooms : List Rm) : Option (Bool × Unit) := if x.length ≤ 4294967296 ∧ rooms.length ≤ 4294967296 then some (true, ()) else none
theorem h4 (x : List Rr) (rooms : List Rm) (y : Bool × Unit) (hw : WFs A4 (x, rooms, ())) (h : s4 x rooms = some y) : ∃ k, f4 s17 s19 s20 s21 s22 s23 s24 s25 s26 k x rooms = some y := by
  clear hw
  unfold s4 at h
  split at h
  rotate_left
  · cases h
  rename_i hc
  cases h
  refine ⟨0, ?_⟩
  unfold f4
  have e20 : s20 x = some (x, ()) := by unfold s20; rw [if_pos hc.1]
  have e24 : s24 rooms = some (rooms, ()) := by unfold s24; rw [if_pos hc.2]
  have e19 : s19 x = some (bif ridesFault x != 0 then ([], ridesFault x, ()) else (twice x, 0, ())) := rfl
  simp only [e20, e24, Option.bind_some, e19, show s21 = ridesFault from rfl, show s23 = roomsFault from rfl, show s25 = roomsFault from rfl, s26_true, beq_self_eq_true, cond_true]
  cases hf : ridesFault x != 0
  · have h0 : ridesFault x = 0 := by simpa using hf
    have e22 : s22 x = some (twice x, ()) := by unfold s22; rw [if_pos (rides_short h0)]
    rw [h0, e22]
    simp only [beq_self_eq_true, cond_true, cond_false, Option.bind_some]
    unfold s17
    rw [decide_eq_true rfl]
    rfl
  · have h0 : (ridesFault x == 0) = false := by
      have : ridesFault x ≠ 0 := by simpa using hf
      simpa using this
    rw [h0]
    simp only [cond_true, cond_false, Option.bind_some, beq_self_eq_true]
    unfold s17
    rw [decide_eq_true rfl]
    rfl
end Go.Vm
