/- BonusesPaid: the bonuses, as the reference has them; the law. Own work. -/
import Derived.Test.YtfiembgemhonlaaDoorUSpecH
set_option linter.unusedVariables false
set_option linter.unusedSimpArgs false
namespace Go.Vm
open Go.RowKit Go.Vm.Gain
/-- a range that counts -/
theorem range_count {α : Type} (p : α → Bool) {f : List α → α → ((Int × Unit) × Unit) → Option (((Int × Unit) × Unit) ⊕ ((Int × Unit) × Unit))} {fin : List α → ((Int × Unit) × Unit) → Option (((Int × Unit) × Unit) ⊕ ((Int × Unit) × Unit))}
    (hf : ∀ D e (n : Nat), n < 4294967296 → f D e (((n : Int), ()), ()) = some (.inl ((((bif p e then n + 1 else n : Nat) : Int), ()), ()))) (hfin : ∀ D (n : Nat), fin D (((n : Int), ()), ()) = some (.inr (((n : Int), ()), ()))) :
    ∀ (l D : List α) (n : Nat), l.length + n ≤ 4294967296 → rangeM f fin l D (((n : Int), ()), ()) = some ((((n + l.countP p : Nat) : Int), ()), ())
  | [], D, n, _ => by simp [rangeM, hfin]
  | e :: l, D, n, h => by
    simp only [List.length_cons] at h
    simp only [rangeM, hf D e n (by omega), Option.bind_some]
    rw [range_count p hf hfin l (D ++ [e]) (bif p e then n + 1 else n) (by cases p e <;> simp only [cond_true, cond_false] <;> omega), List.countP_cons]
    have : (bif p e then n + 1 else n) + List.countP p l = n + (List.countP p l + if p e = true then 1 else 0) := by
      cases p e
      · simp
      · simp only [cond_true, if_true]; omega
    rw [this]
theorem lin_count {m : Ml} {out : List Dn} (h : Lin m out) (p : Dn → Bool) : m.1.countP (fun e => p e.2.1) = out.countP p := by
  rw [← h.vals]
  show _ = (m.1.map (fun x => x.2.1)).countP p
  rw [List.countP_map]
  rfl
def s14 (qs : List Qs) (l : List Dn) (w : ByteArray) (at_ : Int) : Option (List Pr × Unit) :=
  if qsFault qs = 0 ∧ dnFaults l = 0 then some (paid (lasts w at_ l) qs, ()) else none
theorem h14 (qs : List Qs) (l : List Dn) (w : ByteArray) (at_ : Int) (y : List Pr × Unit) (hw : WFs A14 (qs, l, w, at_, ())) (h : s14 qs l w at_ = some y) : ∃ k, f14 s30 s35 k qs l w at_ = some y := by
  clear hw
  unfold s14 at h
  split at h
  rotate_left
  · cases h
  rename_i hc
  obtain ⟨hq0, hd0⟩ := hc
  cases h
  have hl3 := dn_short hd0
  have hq3 := qs_short hq0
  have hl : l.length ≤ 9223372036854775807 := by omega
  have hql : qs.length ≤ 9223372036854775807 := by omega
  refine ⟨l.length + qs.length + 1, ?_⟩
  unfold f14
  rw [iter_scan0 (s0 := (((0 : Int), ()), ((([], 0) : MapC .str UY2), ()))) (β := Ml) l (fun j m => (((j : Int), ()), (m, ()))) (fun _ x m => .inl (stepM w at_ x m)) (fun m => .inr ((), (m, ()))) ([], 0) rfl (by omega) ?a1 ?a2]
  case a2 => intro m; simp
  case a1 =>
    intro j x m hx
    simp only [lt_at hx, inR_at hx, rd_at hx, wrap_succ hx hl, cond_true]
    unfold stepM isMine
    show (bif sEq (nWho x) w then (bif decide (nAt x ≤ at_) then _ else _) else _) = _
    cases sEq (nWho x) w
    · rfl
    · cases decide (nAt x ≤ at_) <;> rfl
  rw [scan_fold0 (fun (x : Dn) (m : Ml) => stepM w at_ x m)]
  simp only [Option.bind_some]
  have hlin := lasts_lin hd0 w at_
  have hn := lasts_len w at_ l
  generalize l.foldl (fun m d => stepM w at_ d m) ([], 0) = m at hlin ⊢
  generalize lasts w at_ l = ds at hn hlin ⊢
  have hml : m.1.length = ds.length := by
    have := congrArg List.length hlin.vals
    simpa using this
  rw [iter_scanI (s0 := (([], (0 : Int), ()), ())) (β := List Pr) qs (fun j o => ((o, (j : Int), ()), ())) (fun _ q o => .inl (payStep ds o q)) (fun o => .inr ((o, ()), ())) (fun j o => o.length ≤ j) [] (Nat.le_refl _) rfl (by omega) ?b0 ?b1 ?b2]
  case b2 => intro o _; simp
  case b0 =>
    intro j x o o' hx hJ hs
    cases hs
    have := payRow_len x (ds.countP (inQ x))
    unfold payStep
    rw [List.length_append]
    omega
  case b1 =>
    intro j q o hx hJ
    have hj := (List.getElem?_eq_some_iff.1 hx).1
    simp only [lt_at hx, inR_at hx, rd_at hx, wrap_succ hx hql, cond_true]
    rw [anyOrder_const (z := ((((ds.countP (inQ q) : Nat) : Int), ()), ())) ?c1]
    case c1 =>
      intro l8 hp
      have hlen : @List.length (ByteArray × Dn × Nat) l8 = ds.length := hp.length_eq.trans hml
      have := range_count (α := ByteArray × Dn × Nat) (fun e => inQ q e.2.1) (f := fun D e5 y4 => bif (!e5.2.1.2.2.2.1) then
                  bif (s35 e5.2.1.2.2.1 q.2.1) then
                    some (.inl (((IntKind.i64.wrap (y4.1.1 + (1 : Int))), ()), ()))
                  else
                    some (.inl ((y4.1.1, ()), ()))
                else
                  some (.inl ((y4.1.1, ()), ()))) (fin := fun D y4 => some (.inr ((y4.1.1, ()), ()))) ?d1 (fun D n => rfl) l8 [] 0 (by omega)
      case d1 =>
        intro D e n hn
        have ew : IntKind.i64.wrap ((n : Int) + 1) = ((n + 1 : Nat) : Int) := by rw [wrap_ok (by omega) (by omega)]; omega
        simp only [ew]
        show (bif !nUndone e.2.1 then (bif (decide (qFrom q ≤ nAt e.2.1) && decide (nAt e.2.1 < qTo q)) then _ else _) else _) = _
        unfold inQ
        cases nUndone e.2.1
        · cases decide (qFrom q ≤ nAt e.2.1) && decide (nAt e.2.1 < qTo q) <;> rfl
        · rfl
      refine this.trans ?_
      rw [Nat.zero_add]
      exact congrArg (fun n : Nat => some (((n : Int), ()), ())) ((List.Perm.countP_eq (fun e : ByteArray × Dn × Nat => inQ q e.2.1) hp).trans (lin_count hlin (inQ q)))
    simp only [Option.bind_some]
    rw [decide_eq_false (rides_ne hq0 (List.mem_of_getElem? hx))]
    simp only [cond_false]
    show (bif decide (pay q (ds.countP (inQ q)) > 0) then _ else _) = _
    unfold payStep payRow
    cases h0 : decide (pay q (ds.countP (inQ q)) > 0)
    · simp
    · have hap : ∀ v : Pr, decide (o.length + [v].length ≤ 4294967296) = true := fun v => decide_eq_true (by simp; omega)
      simp only [cond_true]
      show (Option.bind (s30 (pay q (ds.countP (inQ q)))) _) = _
      rw [pay_text]
      simp only [Option.bind_some, hap, cond_true]
  rw [scan_fold0 (fun (q : Qs) (o : List Pr) => payStep ds o q)]
  rw [show qs.foldl (fun (o : List Pr) (q : Qs) => payStep ds o q) [] = paid ds qs from (paid_fold ds qs []).trans (List.nil_append _)]
  rfl
/-! ### the law -/
def s3 (qs : List Qs) (l : List Dn) (who : ByteArray) (at_ : Int) : Option (Bool × Unit) :=
  if qs.length ≤ 4294967296 ∧ l.length ≤ 4294967296 then some (true, ()) else none
theorem fault_same (qs : List Qs) (l : List Dn) (who : ByteArray) (at_ : Int) : nz [qsFault qs, dnFaults l, s11 (!key who) 5, s13 at_] = allFault qs l who at_ := by
  unfold allFault s28 s11 s13 s11 s37
  cases key who
  · by_cases h1 : qsFault qs = 0
    · by_cases h2 : dnFaults l = 0
      · simp [nz, h1, h2]
      · simp [nz, h1, h2]
    · simp [nz, h1]
  · cases s40 at_ 0 345686399999 <;> by_cases h1 : qsFault qs = 0 <;> by_cases h2 : dnFaults l = 0 <;> simp [nz, h1, h2]
theorem h3 (qs : List Qs) (l : List Dn) (who : ByteArray) (at_ : Int) (y : Bool × Unit) (hw : WFs A3 (qs, l, who, at_, ())) (h : s3 qs l who at_ = some y) :
    ∃ k, f3 s5 s6 s7 s8 s9 s10 s11 s12 s13 s14 s15 s16 s17 s18 k qs l who at_ = some y := by
  clear hw
  unfold s3 at h
  split at h
  rotate_left
  · cases h
  rename_i hc
  cases h
  refine ⟨0, ?_⟩
  unfold f3
  have e6 : s6 qs = some (qs, ()) := by unfold s6; rw [if_pos hc.1]
  have e7 : s7 l = some (l, ()) := by unfold s7; rw [if_pos hc.2]
  have e5 : s5 qs l who at_ = some (bif allFault qs l who at_ != 0 then ([], allFault qs l who at_, ()) else (paid (lasts who at_ l) qs, 0, ())) := rfl
  simp only [e6, e7, Option.bind_some, e5, show s9 = qsFault from rfl, show s16 = qsFault from rfl, show s10 = dnFaults from rfl, show s15 = dnFaults from rfl, show s12 = key from rfl, show s8 = nz from rfl, fault_same, s36_true, beq_self_eq_true, cond_true]
  cases hf : allFault qs l who at_ != 0
  · have h0 : allFault qs l who at_ = 0 := by simpa using hf
    obtain ⟨hq0, hd0, _⟩ := nz_zero (show nz [qsFault qs, dnFaults l, s28 who at_] = 0 from h0)
    have e14 : s14 qs l who at_ = some (paid (lasts who at_ l) qs, ()) := by unfold s14; rw [if_pos ⟨hq0, hd0⟩]
    rw [h0, e14]
    simp only [beq_self_eq_true, cond_true, cond_false, Option.bind_some]
    unfold s17
    rw [decide_eq_true rfl]
    rfl
  · have h0 : (allFault qs l who at_ == 0) = false := by
      have : allFault qs l who at_ ≠ 0 := by simpa using hf
      simpa using this
    rw [h0]
    simp only [cond_true, cond_false, Option.bind_some, beq_self_eq_true]
    unfold s17
    rw [decide_eq_true rfl]
    rfl
end Go.Vm
