/- BonusesPaid: the bonuses, as the reference reckons them. Own work. -/
import Derived.Test.YtfiembgemhonlaaDoorUSpecF
set_option linter.unusedVariables false
set_option linter.unusedSimpArgs false
namespace Go.Vm
open Go.RowKit Go.Vm.Gain
/-- what is wrong, of all that is handed in -/
def allFault (qs : List Qs) (l : List Dn) (w : ByteArray) (at_ : Int) : Int := nz [qsFault qs, dnFaults l, s28 w at_]
def s5 (qs : List Qs) (l : List Dn) (w : ByteArray) (at_ : Int) : Option (List Pr × Int × Unit) :=
  some (bif allFault qs l w at_ != 0 then ([], allFault qs l w at_, ()) else (paid (lasts w at_ l) qs, 0, ()))
theorem dn_short {l : List Dn} (h : dnFaults l = 0) : l.length ≤ 3000 := by
  unfold dnFaults at h
  split at h
  · cases h
  · omega
theorem nz_zero {a b c : Int} (h : nz [a, b, c] = 0) : a = 0 ∧ b = 0 ∧ c = 0 := by
  by_cases ha : a = 0
  · by_cases hb : b = 0
    · by_cases hc : c = 0
      · exact ⟨ha, hb, hc⟩
      · simp_all [nz]
    · simp_all [nz]
  · simp_all [nz]
theorem chk_all {α : Type} (kf : α → ByteArray) (φ : α → Int) : ∀ (l : List α) (p : Option ByteArray), chk kf φ p l = 0 → ∀ x ∈ l, φ x = 0
  | [], p, _, x, hx => by cases hx
  | y :: l, p, h, x, hx => by
    unfold chk at h
    obtain ⟨a, b, h⟩ : ∃ a b : Bool, (bif a then (5 : Int) else bif b then 7 else bif φ y != 0 then φ y else chk kf φ (some (kf y)) l) = 0 := ⟨_, _, h⟩
    cases a
    rotate_left
    · exact absurd h (by simp)
    cases b
    rotate_left
    · exact absurd h (by simp)
    simp only [cond_false] at h
    cases hb : φ y != 0
    · rw [hb] at h
      have hb : φ y = 0 := by simpa using hb
      rcases List.mem_cons.1 hx with rfl | hx
      · exact hb
      · exact chk_all kf φ l _ h x hx
    · rw [hb] at h
      have hb : φ y ≠ 0 := by simpa using hb
      exact absurd h hb
theorem rides_ne {qs : List Qs} (h : qsFault qs = 0) {q : Qs} (hq : q ∈ qs) : qRides q ≠ 0 := by
  unfold qsFault at h
  split at h
  · cases h
  have := chk_all _ _ _ _ h q hq
  intro e
  unfold qBad at this
  rw [e, show s40 0 1 3000 = true from by decide] at this
  cases h1 : decide (qFrom q < 0) <;> cases h2 : decide (qFrom q ≥ qTo q) <;> cases h3 : decide (qTo q > 345686400000) <;> simp [h1, h2, h3] at this
theorem qs_short {qs : List Qs} (h : qsFault qs = 0) : qs.length ≤ 50 := by
  unfold qsFault at h
  split at h
  · cases h
  · omega
theorem count_fold {α : Type} (p : α → Bool) : ∀ (l : List α) (n : Nat), l.foldl (fun (n : Nat) (d : α) => bif p d then n + 1 else n) n = n + l.countP p
  | [], n => rfl
  | x :: l, n => by
    rw [List.foldl_cons, count_fold p l, List.countP_cons]
    cases p x <;> simp <;> omega
theorem h5 (qs : List Qs) (l : List Dn) (w : ByteArray) (at_ : Int) (y : List Pr × Int × Unit) (hw : WFs A5 (qs, l, w, at_, ())) (h : s5 qs l w at_ = some y) : ∃ k, f5 s15 s16 s27 s28 s29 s30 k qs l w at_ = some y := by
  clear hw
  cases h
  refine ⟨l.length + qs.length + 1, ?_⟩
  unfold f5
  rw [show s27 [s16 qs, s15 l, s28 w at_] = allFault qs l w at_ from rfl]
  cases hf : allFault qs l w at_ != 0
  rotate_left
  · rfl
  simp only [cond_false]
  obtain ⟨hq0, hd0, _⟩ := nz_zero (show nz [qsFault qs, dnFaults l, s28 w at_] = 0 from (show allFault qs l w at_ = 0 from by simpa using hf))
  have hl3 := dn_short hd0
  have hq3 := qs_short hq0
  have hl : l.length ≤ 9223372036854775807 := by omega
  have hql : qs.length ≤ 9223372036854775807 := by omega
  rw [iter_scanI (s0 := (([], (0 : Int), ()), ())) (β := List Dn) l (fun j o => ((o, (j : Int), ()), ())) (fun _ x o => .inl (bif isMine w at_ x then stepN o x else o)) (fun o => .inr ((o, ()), ())) (fun j o => o.length ≤ j) [] (Nat.le_refl _) rfl (by omega) ?a0 ?a1 ?a2]
  case a2 => intro o _; simp
  case a0 =>
    intro j x o o' hx hJ hs
    cases hs
    have := stepN_len o x
    cases isMine w at_ x
    · simp only [cond_false]; omega
    · simp only [cond_true]; omega
  case a1 =>
    intro j x o hx hJ
    have hj := (List.getElem?_eq_some_iff.1 hx).1
    have hol : o.length ≤ 9223372036854775807 := by omega
    simp only [lt_at hx, inR_at hx, rd_at hx, wrap_succ hx hl, cond_true, isMine]
    show (bif !sEq (nWho x) w then _ else _) = _
    cases h1 : sEq (nWho x) w
    · rfl
    · by_cases hat : nAt x ≤ at_
      · rw [decide_eq_false (show ¬ x.2.2.1 > at_ from Int.not_lt.2 hat), decide_eq_true hat]
        simp only [cond_false, cond_true, Bool.not_true, Bool.true_and]
        have hap : decide (o.length + [x].length ≤ 4294967296) = true := decide_eq_true (by simp; omega)
        rcases last_at hol with ⟨rfl, _⟩ | ⟨p, hp0, hp1, hp2, hp3⟩
        · simp only [List.length_nil, Int.natCast_zero]
          rw [show decide (IntKind.i64.wrap ((0 : Int) - 1) ≥ 0) = false from by decide]
          simp only [cond_false, Option.bind_some]
          rfl
        · have e0 : decide (((o.length - 1 : Nat) : Int) ≥ 0) = true := by simp
          simp only [hp3, e0, cond_true, inR_at hp2, rd_at hp2, Option.bind_some, Int.toNat_natCast, hap]
          unfold stepN
          rw [hp1]
          simp only [s29, sameD]
          cases drCmp p x == 0
          · rfl
          · simp only [cond_true]
            rw [last_set hp1]
      · rw [decide_eq_true (show x.2.2.1 > at_ from Int.not_le.1 hat), decide_eq_false hat]
        rfl
  rw [scan_fold0 (fun (x : Dn) (o : List Dn) => bif isMine w at_ x then stepN o x else o)]
  have e1 : l.foldl (fun (o : List Dn) (x : Dn) => bif isMine w at_ x then stepN o x else o) [] = lasts w at_ l := by
    unfold lasts
    rw [List.foldl_filter]
    congr 1
    funext o x
    cases isMine w at_ x <;> rfl
  rw [e1]
  simp only [Option.bind_some]
  have hn := lasts_len w at_ l
  generalize lasts w at_ l = ds at hn ⊢
  rw [iter_scanI (s0 := (([], (0 : Int), ()), ())) (β := List Pr) qs (fun j o => ((o, (j : Int), ()), ())) (fun _ q o => .inl (payStep ds o q)) (fun o => .inr ((o, ()), ())) (fun j o => o.length ≤ j) [] (Nat.le_refl _) rfl (by omega) ?b0 ?b1 ?b2]
  case b2 => intro o _; simp
  case b0 =>
    intro j x o o' hx hJ hs
    cases hs
    have := payRow_len x (ds.countP (inQ x))
    unfold payStep
    rw [List.length_append]
    omega
  case b1 =>
    intro j q o hx hJ
    have hj := (List.getElem?_eq_some_iff.1 hx).1
    simp only [lt_at hx, inR_at hx, rd_at hx, wrap_succ hx hql, cond_true]
    rw [iter_scanI (s0 := (((0 : Int), (0 : Int), ()), ())) (β := Nat) ds (fun j n => (((n : Int), (j : Int), ()), ())) (fun _ d n => .inl (bif inQ q d then n + 1 else n)) (fun n => .inr (((n : Int), ()), ())) (fun j n => n ≤ j) 0 (Nat.le_refl _) rfl (by omega) ?c0 ?c1 ?c2]
    case c2 => intro o _; simp
    case c0 =>
      intro j x o o' hx hJ hs
      cases hs
      cases inQ q x
      · simp only [cond_false]; omega
      · simp only [cond_true]; omega
    case c1 =>
      intro i d n hd hJi
      have hi := (List.getElem?_eq_some_iff.1 hd).1
      have hdl : ds.length ≤ 9223372036854775807 := by omega
      have ew : IntKind.i64.wrap ((n : Int) + 1) = ((n + 1 : Nat) : Int) := by rw [wrap_ok (by omega) (by omega)]; omega
      simp only [lt_at hd, inR_at hd, rd_at hd, wrap_succ hd hdl, cond_true, ew, inQ]
      show (bif !nUndone d then _ else _) = _
      cases nUndone d
      · by_cases h1 : qFrom q ≤ nAt d
        · by_cases h2 : nAt d < qTo q
          · rw [decide_eq_true h1, decide_eq_true h2]; rfl
          · rw [decide_eq_true h1, decide_eq_false h2]; rfl
        · rw [decide_eq_false h1]; rfl
      · rfl
    rw [scan_fold0 (fun (d : Dn) (n : Nat) => bif inQ q d then n + 1 else n)]
    have e2 : ds.foldl (fun (n : Nat) (d : Dn) => bif inQ q d then n + 1 else n) 0 = ds.countP (inQ q) := by
      rw [count_fold (inQ q) ds 0, Nat.zero_add]
    rw [e2]
    simp only [Option.bind_some]
    rw [decide_eq_false (rides_ne hq0 (List.mem_of_getElem? hx))]
    simp only [cond_false]
    show (bif decide (pay q (ds.countP (inQ q)) > 0) then _ else _) = _
    unfold payStep payRow
    cases h0 : decide (pay q (ds.countP (inQ q)) > 0)
    · simp
    · have hap : ∀ v : Pr, decide (o.length + [v].length ≤ 4294967296) = true := fun v => decide_eq_true (by simp; omega)
      simp only [cond_true]
      show (Option.bind (s30 (pay q (ds.countP (inQ q)))) _) = _
      rw [pay_text]
      simp only [Option.bind_some, hap, cond_true]
  rw [scan_fold0 (fun (q : Qs) (o : List Pr) => payStep ds o q)]
  rw [show qs.foldl (fun (o : List Pr) (q : Qs) => payStep ds o q) [] = paid ds qs from (paid_fold ds qs []).trans (List.nil_append _)]
  rfl
end Go.Vm
