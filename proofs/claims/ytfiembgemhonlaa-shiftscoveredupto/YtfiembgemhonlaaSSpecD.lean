/- ShiftsCovered: Thin, as the program and the reference do it. Own work. -/
import Derived.Test.YtfiembgemhonlaaSSpecC
set_option linter.unusedVariables false
set_option linter.unusedSimpArgs false
namespace Go.Vm
open Go.RowKit Go.Vm.Gain
theorem sort_some {l : List Int} (h : l.length < 4611686018427387904) : s144 l = some (sortInt l) := by
  unfold s144 sortInt?; rw [if_pos h]
theorem wrap_pred {n : Nat} (h : n + 1 ≤ 9223372036854775807) : IntKind.i64.wrap (((n + 1 : Nat) : Int) - 1) = ((n : Nat) : Int) := by
  rw [wrap_ok (by omega) (by omega)]; omega
theorem wrap_next {n : Nat} (h : n + 1 ≤ 9223372036854775807) : IntKind.i64.wrap (((n : Nat) : Int) + 1) = ((n + 1 : Nat) : Int) := by
  rw [wrap_ok (by omega) (by omega)]; omega
theorem pairs_len (ts : List Int) (h : ts ≠ []) : (List.zip ts (ts.drop 1)).length + 1 = ts.length := by
  cases ts with
  | nil => exact absurd rfl h
  | cons a l => simp
def s48 (l : List Wd) (w : Wd) (many : Int) : Option (List Wd × Int × Unit) :=
  if shiftsFault l = 0 then (if winBad w = false ∧ s114 many 0 500 = false then some (thin l many (times l w), 0, ()) else some ([], 1, ())) else some ([], shiftsFault l, ())
def s56 (l : List Wd) (w : Wd) (many : Int) : Option (List Wd × Unit) := if shiftsFault l = 0 then some (thin l many (times l w), ()) else none
theorem h48 (l : List Wd) (w : Wd) (many : Int) (y : List Wd × Int × Unit) (hw : WFs A48 (l, w, many, ())) (h : s48 l w many = some y) : ∃ k, f48 s53 s114 s143 s144 s145 k l w many = some y := by
  unfold s48 at h
  split at h
  · rename_i he
    have hl := shift_len he
    split at h
    · rename_i hok
      obtain ⟨hok1, hok2⟩ := hok
      cases h
      refine ⟨2 * l.length + 5, ?_⟩
      unfold f48 s53 s143
      simp only [Option.bind_some, he, hok1, hok2, bne_self_eq_false, cond_false, Bool.not_false, Bool.not_true]
      rw [iter_fold (β := List Int) l (fun j acc => ((acc, (j : Int), ()), ())) (fun x acc => acc ++ [x.1, x.2.1].filter (fun t => decide (t > w.1) && decide (t < w.2.1))) (fun acc => .inr ((acc, ()), ())) (fun j acc => acc.length ≤ 2 + 2 * j) [w.1, w.2.1] ?hb ?hs ?hk ?hJ ?h1 ?h2]
      case hb => simp
      case hs => rfl
      case hk => omega
      case hJ =>
        intro j x b hx hb
        have := List.length_filter_le (fun t => decide (t > w.1) && decide (t < w.2.1)) [x.1, x.2.1]
        simp only [List.length_append, List.length_cons, List.length_nil] at this ⊢
        omega
      case h1 =>
        intro j x b hx hb
        have hj := (List.getElem?_eq_some_iff.1 hx).1
        simp only [lt_at hx, inR_at hx, rd_at hx, wrap_succ hx (by omega), cond_true]
        rw [iter_fold (β := List Int) [x.1, x.2.1] (fun i a => ((a, (i : Int), ()), ())) (fun t a => bif (decide (t > w.1) && decide (t < w.2.1)) then a ++ [t] else a) (fun a => .inr ((a, ()), ())) (fun i a => a.length ≤ 2 + 2 * j + i) b ?gb ?gs ?gk ?gJ ?g1 ?g2]
        · simp only [Option.bind_some, fold_filter]
        case gb => omega
        case gs => rfl
        case gk => simp
        case gJ =>
          intro i t a ht ha
          cases (decide (t > w.1) && decide (t < w.2.1))
          · simp only [cond_false]; omega
          · simp only [cond_true, List.length_append, List.length_singleton]; omega
        case g1 =>
          intro i t a ht ha
          have hi := (List.getElem?_eq_some_iff.1 ht).1
          have e : decide (a.length + [t].length ≤ 4294967296) = true := by
            simp only [List.length_cons, List.length_nil] at hi ⊢
            exact decide_eq_true (by omega)
          simp only [lt_at ht, inR_at ht, rd_at ht, wrap_succ ht (by simp), cond_true, e]
          cases decide (t > w.1) <;> cases decide (t < w.2.1) <;> rfl
        case g2 =>
          intro a _
          simp
      case h2 =>
        intro b _
        simp
      have hE : (edges (fun t => decide (t > w.1) && decide (t < w.2.1)) l [w.1, w.2.1]).length < 4611686018427387904 := by
        have := edges_len (fun t => decide (t > w.1) && decide (t < w.2.1)) l [w.1, w.2.1]
        simp only [List.length_cons, List.length_nil] at this
        omega
      have hE2 : l.foldl (fun acc x => acc ++ [x.1, x.2.1].filter (fun t => decide (t > w.1) && decide (t < w.2.1))) [w.1, w.2.1] = edges (fun t => decide (t > w.1) && decide (t < w.2.1)) l [w.1, w.2.1] := rfl
      simp only [Option.bind_some, hE2, sort_some hE, s145]
      have htl := times_len l w
      have hne := times_ne l w
      have hdef : dedup ieq (sortInt (edges (fun t => decide (t > w.1) && decide (t < w.2.1)) l [w.1, w.2.1])) = times l w := rfl
      rw [hdef]
      generalize times l w = ts at *
      have hpl := pairs_len ts hne
      rw [iter_fold (β := List Wd) (List.zip ts (ts.drop 1)) (fun j out => ((out, ((j + 1 : Nat) : Int), ()), ())) (thinStep l many) (fun out => .inr ((out, ()), ())) (fun j out => out.length ≤ j) [] ?kb ?ks ?kk ?kJ ?k1 ?k2]
      · rfl
      case kb => simp
      case ks => rfl
      case kk => omega
      case kJ =>
        intro j p out hp ho
        have := thinStep_len l many p out
        omega
      case k1 =>
        intro j p out hp ho
        obtain ⟨ha, hb⟩ := zip_at hp
        have hj := (List.getElem?_eq_some_iff.1 hb).1
        simp only [lt_at hb, inR_at hb, rd_at hb, wrap_pred (n := j) (by omega), inR_at ha, rd_at ha, wrap_next (n := j + 1) (by omega), cond_true]
        rw [iter_fold (β := Nat) l (fun i n => (((n : Int), (i : Int), ()), ())) (fun x n => bif s150 p.1 x then n + 1 else n) (fun n => .inr (((n : Int), ()), ())) (fun i n => n ≤ i) 0 ?cb ?cs ?ck ?cJ ?c1 ?c2]
        case cb => exact Nat.le_refl _
        case cs => rfl
        case ck => omega
        case cJ =>
          intro i x n hx hn
          cases s150 p.1 x
          · simp only [cond_false]; omega
          · simp only [cond_true]; omega
        case c1 =>
          intro i x n hx hn
          have hi := (List.getElem?_eq_some_iff.1 hx).1
          simp only [lt_at hx, inR_at hx, rd_at hx, wrap_succ hx (by omega), cond_true, wrap_next (n := n) (by omega), s150]
          cases decide (x.1 ≤ p.1) <;> cases decide (p.1 < x.2.1) <;> rfl
        case c2 =>
          intro n _
          simp
        have hcnt : ((l.foldl (fun n x => bif s150 p.1 x then n + 1 else n) 0 : Nat) : Int) = s149 l p.1 := by
          rw [fold_count, Nat.zero_add]; rfl
        simp only [Option.bind_some, hcnt]
        unfold thinStep
        by_cases hm : s149 l p.1 ≥ many
        · simp only [hm, decide_true, cond_true, if_true]
        · simp only [hm, decide_false, cond_false, if_false]
          have eA : decide (out.length + [(p.1, p.2, ())].length ≤ 4294967296) = true := by
            simp only [List.length_cons, List.length_nil]
            exact decide_eq_true (by omega)
          cases hlast : out.getLast? with
          | none =>
            have : out = [] := List.getLast?_eq_none_iff.1 hlast
            subst this
            have e1 : decide (IntKind.i64.wrap (((([] : List Wd).length : Nat) : Int) - 1) ≥ 0) = false := by decide
            simp only [e1, cond_false, Option.bind_some, eA, cond_true]
          | some o =>
            have hlo : out[out.length - 1]? = some o := by rw [← hlast, List.getLast?_eq_getElem?]
            have hlt := (List.getElem?_eq_some_iff.1 hlo).1
            have e0 : IntKind.i64.wrap (((out.length : Nat) : Int) - 1) = ((out.length - 1 : Nat) : Int) := by rw [wrap_ok (by omega) (by omega)]; omega
            have e1 : decide (((out.length - 1 : Nat) : Int) ≥ 0) = true := by simp
            simp only [e0, e1, inR_at hlo, rd_at hlo, cond_true, Option.bind_some, Int.toNat_natCast]
            cases o.2.1 == p.1
            · simp only [cond_false, eA, cond_true, Bool.false_eq_true, if_false]
            · simp only [cond_true, if_true]
      case k2 =>
        intro out _
        rw [hpl]
        simp
    · rename_i hok
      cases h
      refine ⟨0, ?_⟩
      unfold f48 s53 s143
      simp only [Option.bind_some, he, bne_self_eq_false, cond_false]
      cases h1 : winBad w
      · cases h2 : s114 many 0 500
        · exact absurd ⟨h1, h2⟩ hok
        · rfl
      · rfl
  · rename_i he
    cases h
    refine ⟨0, ?_⟩
    unfold f48 s53
    have : (shiftsFault l != 0) = true := by simpa using he
    simp only [Option.bind_some, this, cond_true]
theorem h56 (l : List Wd) (w : Wd) (many : Int) (y : List Wd × Unit) (hw : WFs A56 (l, w, many, ())) (h : s56 l w many = some y) : ∃ k, f56 s144 s145 s149 s150 k l w many = some y := by
  unfold s56 at h
  split at h
  · rename_i he
    have hl := shift_len he
    cases h
    refine ⟨2 * l.length + 5, ?_⟩
    unfold f56
    rw [iter_fold (β := List Int) l (fun j acc => ((acc, (j : Int), ()), ())) (fun x acc => acc ++ [x.1, x.2.1].filter (fun t => s150 t w)) (fun acc => .inr ((acc, ()), ())) (fun j acc => acc.length ≤ 2 + 2 * j) [w.1, w.2.1] ?hb ?hs ?hk ?hJ ?h1 ?h2]
    case hb => simp
    case hs => rfl
    case hk => omega
    case hJ =>
      intro j x b hx hb
      have := List.length_filter_le (fun t => s150 t w) [x.1, x.2.1]
      simp only [List.length_append, List.length_cons, List.length_nil] at this ⊢
      omega
    case h1 =>
      intro j x b hx hb
      have hj := (List.getElem?_eq_some_iff.1 hx).1
      simp only [lt_at hx, inR_at hx, rd_at hx, wrap_succ hx (by omega), cond_true]
      rw [iter_fold (β := List Int) [x.1, x.2.1] (fun i a => ((a, (i : Int), ()), ())) (fun t a => bif s150 t w then a ++ [t] else a) (fun a => .inr ((a, ()), ())) (fun i a => a.length ≤ 2 + 2 * j + i) b ?gb ?gs ?gk ?gJ ?g1 ?g2]
      · simp only [Option.bind_some, fold_filter (fun t => s150 t w)]
      case gb => omega
      case gs => rfl
      case gk => simp
      case gJ =>
        intro i t a ht ha
        cases s150 t w
        · simp only [cond_false]; omega
        · simp only [cond_true, List.length_append, List.length_singleton]; omega
      case g1 =>
        intro i t a ht ha
        have hi := (List.getElem?_eq_some_iff.1 ht).1
        have e : decide (a.length + [t].length ≤ 4294967296) = true := by
          simp only [List.length_cons, List.length_nil] at hi ⊢
          exact decide_eq_true (by omega)
        simp only [lt_at ht, inR_at ht, rd_at ht, wrap_succ ht (by simp), cond_true, e]
        cases s150 t w <;> rfl
      case g2 =>
        intro a _
        simp
    case h2 =>
      intro b _
      simp
    have hE : (edges (fun t => s150 t w) l [w.1, w.2.1]).length < 4611686018427387904 := by
      have := edges_len (fun t => s150 t w) l [w.1, w.2.1]
      simp only [List.length_cons, List.length_nil] at this
      omega
    have hE2 : l.foldl (fun acc x => acc ++ [x.1, x.2.1].filter (fun t => s150 t w)) [w.1, w.2.1] = edges (fun t => s150 t w) l [w.1, w.2.1] := rfl
    simp only [Option.bind_some, hE2, sort_some hE, s145, times_ref l w]
    have htl := times_len l w
    have hne := times_ne l w
    generalize times l w = ts at *
    have hpl := pairs_len ts hne
    rw [iter_fold (β := List Wd) (List.zip ts (ts.drop 1)) (fun j out => ((out, ((j + 1 : Nat) : Int), ()), ())) (thinStep l many) (fun out => .inr ((out, ()), ())) (fun j out => out.length ≤ j) [] ?kb ?ks ?kk ?kJ ?k1 ?k2]
    · rfl
    case kb => simp
    case ks => rfl
    case kk => omega
    case kJ =>
      intro j p out hp ho
      have := thinStep_len l many p out
      omega
    case k1 =>
      intro j p out hp ho
      obtain ⟨ha, hb⟩ := zip_at hp
      have hj := (List.getElem?_eq_some_iff.1 hb).1
      simp only [lt_at hb, inR_at hb, rd_at hb, wrap_pred (n := j) (by omega), inR_at ha, rd_at ha, wrap_next (n := j + 1) (by omega), cond_true]
      unfold thinStep
      by_cases hm : s149 l p.1 ≥ many
      · simp only [hm, decide_true, cond_true, if_true]
      · simp only [hm, decide_false, cond_false, if_false]
        have eA : decide (out.length + [(p.1, p.2, ())].length ≤ 4294967296) = true := by
          simp only [List.length_cons, List.length_nil]
          exact decide_eq_true (by omega)
        cases hlast : out.getLast? with
        | none =>
          have : out = [] := List.getLast?_eq_none_iff.1 hlast
          subst this
          have e1 : decide (IntKind.i64.wrap (((([] : List Wd).length : Nat) : Int) - 1) ≥ 0) = false := by decide
          simp only [e1, cond_false, Option.bind_some, eA, cond_true]
        | some o =>
          have hlo : out[out.length - 1]? = some o := by rw [← hlast, List.getLast?_eq_getElem?]
          have hlt := (List.getElem?_eq_some_iff.1 hlo).1
          have e0 : IntKind.i64.wrap (((out.length : Nat) : Int) - 1) = ((out.length - 1 : Nat) : Int) := by rw [wrap_ok (by omega) (by omega)]; omega
          have e1 : decide (((out.length - 1 : Nat) : Int) ≥ 0) = true := by simp
          simp only [e0, e1, inR_at hlo, rd_at hlo, cond_true, Option.bind_some, Int.toNat_natCast]
          cases o.2.1 == p.1
          · simp only [cond_false, eA, cond_true, Bool.false_eq_true, if_false]
          · simp only [cond_true, if_true]
    case k2 =>
      intro out _
      rw [hpl]
      simp
  · cases h
end Go.Vm
