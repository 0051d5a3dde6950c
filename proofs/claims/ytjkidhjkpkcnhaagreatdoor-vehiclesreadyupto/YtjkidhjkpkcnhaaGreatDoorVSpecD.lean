/- VehiclesReady: what vehicles have at the beginning. Own work. -/
import Derived.Test.YtjkidhjkpkcnhaaGreatDoorVSpecC
set_option maxRecDepth 100000
set_option linter.unusedVariables false
set_option linter.unusedSimpArgs false
namespace Go.Vm
open Go.RowKit Go.Vm.Num
theorem sEq_comm (a b : ByteArray) : sEq a b = sEq b a := by
  rw [Bool.eq_iff_iff, sEq_iff, sEq_iff]
  exact eq_comm
def smOK (l : List Par) : Bool := l.all fun p => decide (p.2.1.size ≤ 281474976710656)
theorem sm_at {l : List Par} {j : Nat} {p : Par} (h : smOK l = true) (hp : l[j]? = some p) : p.2.1.size ≤ 281474976710656 :=
  of_decide_eq_true (List.all_eq_true.1 h p (List.mem_of_getElem? hp))
def dupP (seen : List Par) (k : ByteArray) : Bool := seen.any fun q => sEq q.1 k
/-- what is wrong with what they have -/
def stF : List Par → List Par → Int
  | _, [] => 0
  | seen, p :: l => bif !key p.1 then 5 else bif !lvOk 10 p.2.1 then 3 else bif dupP seen p.1 then 6 else stF (seen ++ [p]) l
def lvsFault (l : List Par) : Int := if l.length > 200 then 2 else stF [] l
/-- .. as the reference finds it -/
def stB (xs : List Par) (j : Nat) (p : Par) (_ : Unit) : Unit ⊕ ((Int × Unit) ⊕ (Unit × Unit)) :=
  bif !key p.1 then .inr (.inl (5, ())) else bif !lvOk 10 p.2.1 then .inr (.inl (3, ())) else bif dupP (xs.take j) p.1 then .inr (.inl (6, ())) else .inl ()
theorem stB_scan (xs : List Par) : ∀ (l : List Par) (j : Nat), xs.drop j = l →
    (match scan (stB xs) (fun _ => .inr ((), ())) l j () with | .inl z => some z | .inr _ => some ((0 : Int), ())) = some (stF (xs.take j) l, ())
  | [], j, _ => rfl
  | p :: l, j, hl => by
    have hx : xs[j]? = some p := by rw [← List.head?_drop, hl]; rfl
    have hl' : xs.drop (j + 1) = l := by rw [← List.drop_drop, hl]; rfl
    simp only [scan, stB, stF]
    cases !key p.1
    · simp only [cond_false]
      cases !lvOk 10 p.2.1
      · simp only [cond_false]
        cases dupP (xs.take j) p.1
        · simp only [cond_false]
          have := stB_scan xs l (j + 1) hl'
          rw [List.take_add_one, hx] at this
          exact this
        · rfl
      · rfl
    · rfl
def s40 (l : List Par) : Option (Int × Unit) := if smOK l = true then some (lvsFault l, ()) else none
theorem h40 (l : List Par) (y : Int × Unit) (hw : WFs A40 (l, ())) (h : s40 l = some y) : ∃ k, f40 s36 s71 s95 k l = some y := by
  unfold s40 at h
  split at h
  rotate_left
  · cases h
  rename_i hs
  cases h
  simp only [WFs, WF] at hw
  have hl := hw.1.1
  clear hw
  refine ⟨l.length + 1, ?_⟩
  unfold f40 lvsFault
  rw [show (200 : Int) = ((200 : Nat) : Int) from rfl, len_gt]
  by_cases hn : l.length > 200
  · simp [hn]
  · simp only [hn, decide_false, cond_false, if_false]
    rw [iter_scan0 (s0 := (((0 : Int), ()), ())) (β := Unit) l (fun j _ => (((j : Int), ()), ())) (stB l) (fun _ => .inr ((), ())) () ?hs ?hk ?h1 ?h2]
    case hs => rfl
    case hk => exact Nat.lt_succ_self _
    · exact stB_scan l l 0 rfl
    · intro j x b hx
      have hj := (List.getElem?_eq_some_iff.1 hx).1
      have e95 : s95 x.2.1 15 = some (bif digs 15 x.2.1.data.toList then (aVal x.2.1, okN x.2.1.data.toList, ()) else (0, false, ())) := by
        unfold s95; rw [if_pos ⟨sm_at hs hx, by omega⟩]
      have g1 : decide (0 ≤ (0 : Int)) = true := by decide
      have g2 : decide ((0 : Int) ≤ (j : Int)) = true := decide_eq_true (by omega)
      have g3 : decide ((j : Int) ≤ (l.length : Int)) = true := decide_eq_true (by omega)
      simp only [lt_at hx, inR_at hx, rd_at hx, wrap_succ hx hl, cond_true, stB, s36, e95, Option.bind_some, g1, g2, g3, Bool.true_and]
      cases !key x.1
      rotate_left
      · rfl
      simp only [cond_false]
      have hlv : lvOk 10 x.2.1 = (numOk 15 x.2.1.data.toList && !s74 (aVal x.2.1) 0 1000000) := (lv_same x.2.1).symm
      rw [hlv]
      unfold numOk
      cases hd : digs 15 x.2.1.data.toList
      · rfl
      simp only [cond_true, Bool.true_and]
      cases hok : okN x.2.1.data.toList
      · rfl
      simp only [Bool.not_true, cond_false, Bool.true_and, Bool.not_not, in_out]
      cases s74 (aVal x.2.1) 0 1000000
      rotate_left
      · rfl
      simp only [cond_false]
      have ht : List.drop (Int.toNat (0 : Int)) (List.take (Int.toNat (j : Int)) l) = l.take j := rfl
      rw [ht]
      have hlt : (l.take j).length ≤ 9223372036854775807 := by rw [List.length_take]; omega
      rw [iter_any (s0 := (((0 : Int), ()), (x, ()))) (l.take j) (fun i => (((i : Int), ()), (x, ()))) (fun q => sEq q.1 x.1) (.inl (.inr (.inl (6, ())))) (.inr ((), (x, ()))) rfl (by rw [List.length_take]; omega)
        (fun i q hq => by
          have hi : decide ((i : Int) ≥ 0) = true := by simp
          simp only [lt_at hq, inR_at hq, rd_at hq, wrap_succ hq hlt, cond_true, hi]
          cases sEq q.1 x.1 <;> rfl)
        (by simp)]
      unfold dupP
      cases (l.take j).any fun q => sEq q.1 x.1 <;> rfl
    · intro b
      simp
/-! ### what a vehicle has -/
def levOf : List Par → ByteArray → Int
  | [], _ => 0
  | p :: l, k => bif sEq p.1 k then aVal p.2.1 else levOf l k
def s98 (l : List Par) (k : ByteArray) : Option (Int × Unit) := if smOK l = true then some (levOf l k, ()) else none
def lvB (k : ByteArray) (_ : Nat) (p : Par) (_ : Unit) : Unit ⊕ ((Int × Unit) ⊕ (Unit × Unit)) := bif sEq p.1 k then .inr (.inl (aVal p.2.1, ())) else .inl ()
theorem lvB_scan (k : ByteArray) : ∀ (l : List Par) (j : Nat), (match scan (lvB k) (fun _ => .inr ((), ())) l j () with | .inl z => some z | .inr _ => some ((0 : Int), ())) = some (levOf l k, ())
  | [], j => rfl
  | p :: l, j => by
    simp only [scan, lvB, levOf]
    cases sEq p.1 k
    · exact lvB_scan k l (j + 1)
    · rfl
theorem h98 (l : List Par) (k : ByteArray) (y : Int × Unit) (hw : WFs A98 (l, k, ())) (h : s98 l k = some y) : ∃ n, f98 n l k = some y := by
  unfold s98 at h
  split at h
  rotate_left
  · cases h
  rename_i hs
  cases h
  simp only [WFs, WF] at hw
  have hl := hw.1.1
  clear hw
  refine ⟨l.length + 1, ?_⟩
  unfold f98
  rw [iter_scan0 (s0 := (((0 : Int), ()), ())) (β := Unit) l (fun j _ => (((j : Int), ()), ())) (lvB k) (fun _ => .inr ((), ())) () rfl (Nat.lt_succ_self _)
    (fun j x b hx => by
      simp only [lt_at hx, inR_at hx, rd_at hx, wrap_succ hx hl, cond_true, lvB, decide_eq_true (sm_at hs hx)]
      cases sEq x.1 k
      · rfl
      · cases aOk x.2.1 <;> rfl)
    (fun b => by simp)]
  exact lvB_scan k l 0
def startAny (vs : List Veh) (st : List Par) : Bool := vs.any fun v => decide (levOf st v.1 > v.2.1)
def s42 (vs : List Veh) (st : List Par) : Option (Int × Unit) := if smOK st = true then some (bif startAny vs st then 1 else 0, ()) else none
theorem h42 (vs : List Veh) (st : List Par) (y : Int × Unit) (hw : WFs A42 (vs, st, ())) (h : s42 vs st = some y) : ∃ n, f42 s98 n vs st = some y := by
  unfold s42 at h
  split at h
  rotate_left
  · cases h
  rename_i hs
  cases h
  simp only [WFs, WF] at hw
  have hl := hw.1.1
  clear hw
  refine ⟨vs.length + 1, ?_⟩
  unfold f42
  rw [iter_any (s0 := (((0 : Int), ()), ())) vs (fun j => (((j : Int), ()), ())) (fun v => decide (levOf st v.1 > v.2.1)) (.inl (1, ())) (.inr ((), ())) rfl (Nat.lt_succ_self _)
    (fun j x hx => by
      have e : s98 st x.1 = some (levOf st x.1, ()) := by unfold s98; rw [if_pos hs]
      simp only [lt_at hx, inR_at hx, rd_at hx, wrap_succ hx hl, cond_true, e, Option.bind_some]
      cases decide (levOf st x.1 > x.2.1) <;> rfl)
    (by simp)]
  unfold startAny
  cases vs.any fun v => decide (levOf st v.1 > v.2.1) <;> rfl
/-! ### .. as a map -/
abbrev Lm := MapC .str (.int .i64)
def lHas (k : ByteArray) (m : Lm) : Bool := mhas (keq .str) k m.1
def lGet (k : ByteArray) (m : Lm) : Int := mget (keq .str) (0 : Int) k m.1
def lPut (k : ByteArray) (v : Int) (m : Lm) : Lm := mput (keq .str) k v m
theorem lHas_put (x y : ByteArray) (v : Int) (m : Lm) : lHas y (lPut x v m) = (sEq y x || lHas y m) := mhas_mput (eq := keq .str) (fun a b => sEq_iff) x v m y
theorem lGet_put (x y : ByteArray) (v : Int) (m : Lm) : lGet y (lPut x v m) = cond (sEq y x) v (lGet y m) := mget_mput (eq := keq .str) (fun a b => sEq_iff) 0 x v m y
def mOf (seen : List Par) : Lm := seen.foldl (fun m p => lPut p.1 (aVal p.2.1) m) ([], 0)
theorem mOf_snoc (seen : List Par) (p : Par) : mOf (seen ++ [p]) = lPut p.1 (aVal p.2.1) (mOf seen) := by
  unfold mOf; rw [List.foldl_append]; rfl
theorem has_snoc (seen : List Par) (h : ∀ k, lHas k (mOf seen) = dupP seen k) (p : Par) (k : ByteArray) : lHas k (mOf (seen ++ [p])) = dupP (seen ++ [p]) k := by
  rw [mOf_snoc, lHas_put, h]
  unfold dupP
  rw [List.any_append, Bool.or_comm]
  congr 1
  simp only [List.any_cons, List.any_nil, Bool.or_false]
  exact sEq_comm _ _
theorem lev_snoc (seen : List Par) (p : Par) (k : ByteArray) : levOf (seen ++ [p]) k = bif dupP seen k then levOf seen k else bif sEq p.1 k then aVal p.2.1 else 0 := by
  induction seen with
  | nil => rfl
  | cons q l ih =>
    simp only [List.cons_append, levOf, dupP, List.any_cons]
    cases sEq q.1 k
    · simp only [cond_false, Bool.false_or]
      exact ih
    · rfl
theorem lev_none (seen : List Par) (k : ByteArray) (h : dupP seen k = false) : levOf seen k = 0 := by
  induction seen with
  | nil => rfl
  | cons q l ih =>
    simp only [dupP, List.any_cons, Bool.or_eq_false_iff] at h
    simp only [levOf, h.1, cond_false]
    exact ih h.2
theorem get_snoc (seen : List Par) (h : ∀ k, lGet k (mOf seen) = levOf seen k) (p : Par) (hn : dupP seen p.1 = false) (k : ByteArray) : lGet k (mOf (seen ++ [p])) = levOf (seen ++ [p]) k := by
  rw [mOf_snoc, lGet_put, h, lev_snoc, sEq_comm k p.1]
  cases hk : sEq p.1 k
  · simp only [cond_false]
    cases hd : dupP seen k
    · simp only [cond_false]; exact lev_none seen k hd
    · rfl
  · have := sEq_iff.1 hk
    rw [← this, hn]
    rfl
/-- .. as the program finds it -/
def mB (_ : Nat) (p : Par) (m : Lm) : Lm ⊕ ((List ByteArray × Int × Unit) ⊕ (Unit × (Lm × Unit))) :=
  bif !key p.1 then .inr (.inl ([], 5, ())) else bif !lvOk 10 p.2.1 then .inr (.inl ([], 3, ())) else bif lHas p.1 m then .inr (.inl ([], 6, ())) else .inl (lPut p.1 (aVal p.2.1) m)
theorem mB_scan : ∀ (l : List Par) (seen : List Par) (j : Nat), (∀ k, lHas k (mOf seen) = dupP seen k) → (∀ k, lGet k (mOf seen) = levOf seen k) →
    (stF seen l = 0 ∧ (∃ m : Lm, scan mB (fun m => .inr ((), (m, ()))) l j (mOf seen) = .inr ((), (m, ())) ∧ ∀ k, lGet k m = levOf (seen ++ l) k)) ∨ (stF seen l ≠ 0 ∧ scan mB (fun m => .inr ((), (m, ()))) l j (mOf seen) = .inl ([], stF seen l, ()))
  | [], seen, j, h1, h2 => .inl ⟨rfl, mOf seen, rfl, by rw [List.append_nil]; exact h2⟩
  | p :: l, seen, j, h1, h2 => by
    simp only [scan, mB, stF, h1]
    cases !key p.1
    · simp only [cond_false]
      cases !lvOk 10 p.2.1
      · simp only [cond_false]
        cases hd : dupP seen p.1
        · simp only [cond_false]
          have := mB_scan l (seen ++ [p]) (j + 1) (has_snoc seen h1 p) (get_snoc seen h2 p hd)
          rw [mOf_snoc, List.append_assoc] at this
          exact this
        · exact .inr ⟨(by show (6 : Int) ≠ 0; decide), rfl⟩
      · exact .inr ⟨(by show (3 : Int) ≠ 0; decide), rfl⟩
    · exact .inr ⟨(by show (5 : Int) ≠ 0; decide), rfl⟩
/-! ### who is ready -/
def readyG (L : ByteArray → Int) (t : List Run) (c : List Chg) (need at_ : Int) (v : Veh) : Option ByteArray :=
  bif !busyB v.1 t c at_ then (bif decide (brk at_ (L v.1) (trns v.1 t c) ≥ IntKind.i64.wrap (v.2.2.1 + need)) then some v.1 else none) else none
def readyE (vs : List Veh) (t : List Run) (c : List Chg) (st : List Par) (need at_ : Int) : List ByteArray × Int × Unit :=
  bif nz [s87 vs, s85 t, s88 c] != 0 then ([], nz [s87 vs, s85 t, s88 c], ()) else bif lvsFault st != 0 then ([], lvsFault st, ()) else bif s74 need 0 1000000 then ([], 1, ()) else bif !s73 at_ then ([], 1, ()) else bif startAny vs st then ([], 1, ()) else (vs.filterMap (readyG (levOf st) t c need at_), 0, ())
def s29 (vs : List Veh) (t : List Run) (c : List Chg) (st : List Par) (need at_ : Int) : Option (List ByteArray × Int × Unit) :=
  if smOK st = true ∧ vs.length ≤ 4294967295 ∧ st.length ≤ 4294967295 ∧ t.length + c.length ≤ 4294967290 then some (readyE vs t c st need at_) else none
theorem h29 (vs : List Veh) (t : List Run) (c : List Chg) (st : List Par) (need at_ : Int) (y : List ByteArray × Int × Unit) (hw : WFs A29 (vs, t, c, st, need, at_, ())) (h : s29 vs t c st need at_ = some y) :
    ∃ k, f29 s69 s73 s74 s75 s85 s87 s88 s92 s93 s139 k vs t c st need at_ = some y := by
  unfold s29 at h
  split at h
  rotate_left
  · cases h
  rename_i hn
  obtain ⟨hs, hv, hst, htc⟩ := hn
  cases h
  clear hw
  refine ⟨vs.length + st.length + 1, ?_⟩
  unfold f29 readyE
  simp only [s69]
  cases nz [s87 vs, s85 t, s88 c] != 0
  rotate_left
  · rfl
  simp only [cond_false]
  unfold lvsFault
  rw [show (200 : Int) = ((200 : Nat) : Int) from rfl, len_gt]
  by_cases h200 : st.length > 200
  · simp [h200]
  simp only [h200, decide_false, cond_false, if_false]
  rw [iter_scan0 (s0 := (((0 : Int), ()), ((([], 0) : Lm), ()))) (β := Lm) st (fun j m => (((j : Int), ()), (m, ()))) mB (fun m => .inr ((), (m, ()))) ([], 0) rfl (by omega)
    (fun j x m hx => by
      have e : s139 x.2.1 10 = some (bif numOk 10 x.2.1.data.toList then (aVal x.2.1, true, ()) else (0, false, ())) := by
        unfold s139; rw [if_pos ⟨sm_at hs hx, by omega⟩]
      simp only [lt_at hx, inR_at hx, rd_at hx, wrap_succ hx (by omega), cond_true, mB, s75, e, Option.bind_some]
      cases !key x.1
      rotate_left
      · rfl
      simp only [cond_false]
      unfold lvOk
      cases numOk 10 x.2.1.data.toList
      · rfl
      simp only [cond_true, Bool.not_true, cond_false, Bool.true_and, Bool.not_not]
      cases s74 (aVal x.2.1) 0 1000000
      rotate_left
      · rfl
      simp only [cond_false]
      show (bif lHas x.1 m then _ else some (Sum.inl (_, (lPut x.1 (aVal x.2.1) m, ())))) = _
      cases lHas x.1 m <;> rfl)
    (fun m => by simp)]
  rcases mB_scan st [] 0 (fun k => rfl) (fun k => rfl) with ⟨h0, m, e, hm⟩ | ⟨h0, e⟩
  rotate_left
  · have hne : (stF [] st != 0) = true := by simpa using h0
    have e' : scan mB (fun m => .inr ((), (m, ()))) st 0 (([], 0) : Lm) = .inl ([], stF [] st, ()) := e
    rw [e', hne]
    rfl
  have e' : scan mB (fun m => .inr ((), (m, ()))) st 0 (([], 0) : Lm) = .inr ((), (m, ())) := e
  have hne : (stF [] st != 0) = false := by simpa using h0
  rw [e', hne]
  simp only [Option.bind_some, cond_false]
  cases s74 need 0 1000000
  rotate_left
  · rfl
  simp only [cond_false]
  cases !s73 at_
  rotate_left
  · rfl
  simp only [cond_false]
  rw [List.nil_append] at hm
  have hm' : ∀ k : ByteArray, mget (keq .str) (0 : Int) k m.1 = levOf st k := fun k => hm k
  rw [iter_any (s0 := (((0 : Int), ()), (m, ()))) vs (fun j => (((j : Int), ()), (m, ()))) (fun v => decide (levOf st v.1 > v.2.1)) (.inl (.inr ((true, ()), (m, ())))) (.inr ((), (m, ()))) rfl (by omega)
    (fun j x hx => by
      have hj : decide ((j : Int) ≥ 0) = true := by simp
      simp only [lt_at hx, inR_at hx, rd_at hx, wrap_succ hx (by omega), cond_true, hm', hj]
      cases decide (levOf st x.1 > x.2.1) <;> rfl)
    (by simp)]
  unfold startAny
  cases vs.any fun v => decide (levOf st v.1 > v.2.1)
  rotate_left
  · rfl
  simp only [cond_false, Option.bind_some]
  rw [collectG (s0 := (([], (0 : Int), ()), ())) vs (readyG (levOf st) t c need at_) (fun j b => ((b, (j : Int), ()), ())) (fun b => .inr ((b, ()), ())) rfl (by omega) (by omega)
    (fun j x b hx hb => by
      have hlen : decide (b.length + [x.1].length ≤ 4294967296) = true := decide_eq_true (by simp only [List.length_singleton]; omega)
      have e93 : ∀ n, s93 x.1 t c n at_ = some (brk at_ n (trns x.1 t c), ()) := fun n => by unfold s93; rw [if_pos (by omega)]
      simp only [lt_at hx, inR_at hx, rd_at hx, wrap_succ hx (by omega), cond_true, readyG, s92, e93, hm', hlen, Option.bind_some]
      cases !busyB x.1 t c at_
      · rfl
      · simp only [cond_true]
        cases decide (brk at_ (levOf st x.1) (trns x.1 t c) ≥ IntKind.i64.wrap (x.2.2.1 + need)) <;> rfl)
    (fun b => by simp)]
  rfl
def s44 (vs : List Veh) (t : List Run) (c : List Chg) (st : List Par) (need at_ : Int) : Option (List ByteArray × Unit) :=
  if smOK st = true ∧ vs.length ≤ 4294967295 ∧ t.length + c.length ≤ 4294967290 then some (vs.filterMap (readyG (levOf st) t c need at_), ()) else none
theorem h44 (vs : List Veh) (t : List Run) (c : List Chg) (st : List Par) (need at_ : Int) (y : List ByteArray × Unit) (hw : WFs A44 (vs, t, c, st, need, at_, ())) (h : s44 vs t c st need at_ = some y) :
    ∃ k, f44 s80 s98 s103 k vs t c st need at_ = some y := by
  unfold s44 at h
  split at h
  rotate_left
  · cases h
  rename_i hn
  obtain ⟨hs, hv, htc⟩ := hn
  cases h
  clear hw
  refine ⟨vs.length + t.length + c.length + 1, ?_⟩
  unfold f44
  rw [collectG (s0 := (([], (0 : Int), ()), (at_, ()))) vs (readyG (levOf st) t c need at_) (fun j b => ((b, (j : Int), ()), (at_, ()))) (fun b => .inr ((b, ()), (at_, ()))) rfl (by omega) (by omega)
    (fun j x b hx hb => by
      have hlen : decide (b.length + [x.1].length ≤ 4294967296) = true := decide_eq_true (by simp only [List.length_singleton]; omega)
      have e98 : s98 st x.1 = some (levOf st x.1, ()) := by unfold s98; rw [if_pos hs]
      have e103 : ∀ n, s103 x.1 t c n at_ = some (brk at_ n (trns x.1 t c), ()) := fun n => by unfold s103; rw [if_pos (by omega), brk_all at_ _ _ (trns_sorted x.1 t c)]
      simp only [lt_at hx, inR_at hx, rd_at hx, wrap_succ hx (by omega), cond_true]
      rw [iter_any (s0 := (((0 : Int), ()), (x, at_, ()))) t (fun i => (((i : Int), ()), (x, at_, ()))) (rIn x.1 at_) (.inl (.inr ((true, ()), (at_, x, ())))) (.inr ((), (x, at_, ()))) rfl (by omega)
        (fun i r hr => by
          have hi : decide ((i : Int) ≥ 0) = true := by simp
          simp only [lt_at hr, inR_at hr, rd_at hr, wrap_succ hr (by omega), cond_true, rIn, hi]
          cases sEq r.1 x.1
          · rfl
          · cases s80 at_ r.2.1 <;> rfl)
        (by simp)]
      unfold readyG busyB
      cases t.any (rIn x.1 at_)
      rotate_left
      · rfl
      simp only [cond_false, Option.bind_some, Bool.false_or]
      rw [iter_any (s0 := (((0 : Int), ()), (x, at_, ()))) c (fun i => (((i : Int), ()), (x, at_, ()))) (cIn x.1 at_) (.inl (.inr ((true, ()), (at_, x, ())))) (.inr ((), (x, at_, ()))) rfl (by omega)
        (fun i r hr => by
          have hi : decide ((i : Int) ≥ 0) = true := by simp
          simp only [lt_at hr, inR_at hr, rd_at hr, wrap_succ hr (by omega), cond_true, cIn, hi]
          cases sEq r.1 x.1
          · rfl
          · cases decide (r.2.2.1 ≤ at_) <;> cases decide (at_ < r.2.2.2.1) <;> rfl)
        (by simp)]
      cases c.any (cIn x.1 at_)
      rotate_left
      · rfl
      simp only [cond_false, Option.bind_some, Bool.not_false, cond_true, e98, e103, hlen]
      cases decide (brk at_ (levOf st x.1) (trns x.1 t c) ≥ IntKind.i64.wrap (x.2.2.1 + need)) <;> rfl)
    (fun b => by simp)]
  rfl
end Go.Vm
