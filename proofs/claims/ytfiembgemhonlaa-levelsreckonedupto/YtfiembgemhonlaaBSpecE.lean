/- Needs by halving; the law. Own work. -/
import Derived.Test.YtfiembgemhonlaaBSpecD
set_option linter.unusedVariables false
set_option linter.unusedSimpArgs false
namespace Go.Vm
open Go.RowKit Go.Vm.Gain
def needAt (v : Veh) (p : Plc) (lvl want : Int) : Int := need (lvl * 3600000000) (slowOf v) (1000 * powerOf v p) (500 * powerOf v p) (want * 3600000000)
open Classical in
noncomputable def s23 (v : Veh) (p : Plc) (lvl want : Int) : Option (Int × Unit) := if Fit v p lvl ∧ 0 ≤ want ∧ want ≤ v.2.1 then some (needAt v p lvl want, ()) else none
theorem needAt_facts {v : Veh} {p : Plc} {lvl want : Int} (R : Fit v p lvl) (w0 : 0 ≤ want) (w1 : want ≤ v.2.1) :
    0 ≤ needAt v p lvl want ∧ needAt v p lvl want ≤ 7200000000000000 ∧ ∀ t, 0 ≤ t → (want ≤ gainAt v p lvl t ↔ needAt v p lvl want ≤ t) := by
  have G := R.good
  have hf : 0 < 1000 * powerOf v p := by have := G.q1; omega
  have hg : 0 < 500 * powerOf v p := by have := G.q1; omega
  have hgf : 500 * powerOf v p ≤ 1000 * powerOf v p := by have := G.q1; omega
  refine ⟨need_nonneg hf hg, ?_, fun t ht => ?_⟩
  · have := need_small (L := lvl * 3600000000) (S := slowOf v) (T := want * 3600000000) hf hg G.L0 G.S0 (by omega)
    have := G.SF
    have := R.f2
    unfold needAt
    omega
  · unfold gainAt
    have hX0 : 0 ≤ X (lvl * 3600000000) (slowOf v) (1000 * powerOf v p) (500 * powerOf v p) t := by
      have h0 := X_mono (L := lvl * 3600000000) (S := slowOf v) hf hg hgf ht
      have : X (lvl * 3600000000) (slowOf v) (1000 * powerOf v p) (500 * powerOf v p) 0 = lvl * 3600000000 := by
        unfold X
        split
        · have h3 := (cd_lt (a := slowOf v - lvl * 3600000000) (b := 1000 * powerOf v p) (by omega) hf).2.2
          rw [Int.min_eq_left h3]
          simp
        · simp
      have := G.L0
      omega
    rw [gain_ge (F := v.2.1 * 3600000000) (T := want * 3600000000) rfl rfl w1 hX0 G.full0]
    constructor
    · intro h
      exact need_le hf hg hgf ht h
    · intro h
      have h1 := (need_spec (L := lvl * 3600000000) (S := slowOf v) (T := want * 3600000000) hf hg).1
      have h2 := X_mono (L := lvl * 3600000000) (S := slowOf v) hf hg hgf h
      unfold needAt at h2
      omega
theorem h23 (v : Veh) (p : Plc) (lvl want : Int) (y : Int × Unit) (hw : WFs A23 (v, p, lvl, want, ())) (h : s23 v p lvl want = some y) : ∃ k, f23 s22 k v p lvl want = some y := by
  unfold s23 at h
  split at h
  · rename_i hR
    cases h
    obtain ⟨R, w0, w1⟩ := hR
    obtain ⟨n0, n1, hN⟩ := needAt_facts R w0 w1
    generalize needAt v p lvl want = N at *
    obtain ⟨k, hk⟩ : ∃ k : Nat, 40000000000000000 < k := ⟨_, Nat.lt_succ_self _⟩
    refine ⟨k, ?_⟩
    unfold f23
    have first := iter_post (f := fun (y1 : (Int × Unit) × Unit) => (Option.bind (s22 v p lvl y1.1.1) fun v2 => bif decide (v2.1 < want) then some (.inl (((IntKind.i64.wrap (y1.1.1 * (2 : Int))), ()), ())) else some (.inr (.inr ((y1.1.1, ()), ()))) : Option (((Int × Unit) × Unit) ⊕ ((Int × Unit) ⊕ ((Int × Unit) × Unit)))))
      (fun s => 1 ≤ s.1.1 ∧ s.1.1 ≤ 20000000000000000) (fun s => (20000000000000001 - s.1.1).toNat) (fun t => ∃ hi, t = .inr ((hi, ()), ()) ∧ N ≤ hi ∧ 1 ≤ hi ∧ hi ≤ 20000000000000000)
      (fun s hs => by
        obtain ⟨⟨hi, _⟩, _⟩ := s
        obtain ⟨h1, h2⟩ := hs
        simp only at h1 h2
        simp only [gainOf_ok R (show 0 ≤ hi by omega) (by omega), Option.bind_some]
        have := hN hi (by omega)
        by_cases hc : gainAt v p lvl hi < want
        · left
          have hlt : hi < N := by omega
          have e : IntKind.i64.wrap (hi * 2) = hi * 2 := wrap_ok (by omega) (by omega)
          simp only [hc, decide_true, cond_true, e]
          exact ⟨_, rfl, ⟨by simp only; omega, by simp only; omega⟩, by simp only; omega⟩
        · right
          simp only [hc, decide_false, cond_false]
          exact ⟨_, rfl, hi, rfl, by omega, by omega, by omega⟩) k ((1, ()), ()) (by simp) (by simp; omega)
    obtain ⟨t, ht, hi, rfl, b1, b2, b3⟩ := first
    have second := iter_post (f := fun (y4 : (Int × Int × Unit) × Unit) => (bif (decide (y4.1.1 < y4.1.2.1)) then
          Option.bind (s22 v p lvl (IntKind.i64.wrap (Int.tdiv (IntKind.i64.wrap (y4.1.1 + y4.1.2.1)) (2 : Int)))) fun v5 =>
          bif (decide (v5.1 ≥ want)) then
            some (.inl ((y4.1.1, (IntKind.i64.wrap (Int.tdiv (IntKind.i64.wrap (y4.1.1 + y4.1.2.1)) (2 : Int))), ()), ()))
          else
            some (.inl (((IntKind.i64.wrap ((IntKind.i64.wrap (Int.tdiv (IntKind.i64.wrap (y4.1.1 + y4.1.2.1)) (2 : Int))) + (1 : Int))), y4.1.2.1, ()), ()))
        else
          some (.inr (.inr ((y4.1.1, ()), ()))) : Option (((Int × Int × Unit) × Unit) ⊕ ((Int × Unit) ⊕ ((Int × Unit) × Unit)))))
      (fun s => 0 ≤ s.1.1 ∧ s.1.1 ≤ N ∧ N ≤ s.1.2.1 ∧ s.1.2.1 ≤ 20000000000000000) (fun s => (s.1.2.1 - s.1.1).toNat) (fun t => t = .inr ((N, ()), ()))
      (fun s hs => by
        obtain ⟨⟨lo, hi, _⟩, _⟩ := s
        obtain ⟨h1, h2, h3, h4⟩ := hs
        simp only at h1 h2 h3 h4
        by_cases hlt : lo < hi
        · left
          have e1 : IntKind.i64.wrap (lo + hi) = lo + hi := wrap_ok (by omega) (by omega)
          have e2 : Int.tdiv (lo + hi) 2 = (lo + hi) / 2 := Int.tdiv_eq_ediv_of_nonneg (by omega)
          have e3 : IntKind.i64.wrap ((lo + hi) / 2) = (lo + hi) / 2 := wrap_ok (by omega) (by omega)
          simp only [hlt, decide_true, cond_true, e1, e2, e3]
          have m1 : lo ≤ (lo + hi) / 2 := by omega
          have m2 : (lo + hi) / 2 < hi := by omega
          generalize (lo + hi) / 2 = mid at *
          simp only [gainOf_ok R (show 0 ≤ mid by omega) (by omega), Option.bind_some]
          have := hN mid (by omega)
          by_cases hc : gainAt v p lvl mid ≥ want
          · simp only [hc, decide_true, cond_true]
            exact ⟨_, rfl, ⟨by simp only; omega, by simp only; omega, by simp only; omega, by simp only; omega⟩, by simp only; omega⟩
          · have e4 : IntKind.i64.wrap (mid + 1) = mid + 1 := wrap_ok (by omega) (by omega)
            simp only [hc, decide_false, cond_false, e4]
            exact ⟨_, rfl, ⟨by simp only; omega, by simp only; omega, by simp only; omega, by simp only; omega⟩, by simp only; omega⟩
        · right
          have : lo = N := by omega
          subst this
          simp only [hlt, decide_false, cond_false]
          exact ⟨_, rfl, rfl⟩) k ((0, hi, ()), ()) ⟨by simp, by simp; omega, by simp; omega, by simp; omega⟩ (by simp; omega)
    obtain ⟨t2, ht2, rfl⟩ := second
    rw [ht]
    simp only [Option.bind_some]
    rw [ht2]
    rfl
  · cases h
/-! ### one vehicle, one place -/
def s116 (v : Veh) (p : Plc) : Int := nz [s12 [v], s15 [p]]
theorem h116 (v : Veh) (p : Plc) (hw : WFs A116 (v, p, ())) : ∃ k, f116 s12 s15 s123 k v p = some (s116 v p, ()) := ⟨0, rfl⟩
theorem nz2 {a b : Int} (h : nz [a, b] = 0) : a = 0 ∧ b = 0 := by
  simp only [nz] at h
  split at h
  · rename_i ha
    split at h
    · rename_i hb; exact ⟨ha, hb⟩
    · exact ⟨ha, h⟩
  · rename_i ha; exact absurd h ha
theorem one_fault {α : Type} {kf : α → ByteArray} {φ : α → Int} {x : α} (h : chk kf φ none [x] = 0) : φ x = 0 := by
  simp only [chk] at h
  cases hk : key (kf x)
  · rw [hk] at h; cases h
  · rw [hk] at h
    simp only [Bool.not_true, cond_false] at h
    by_cases hx : φ x = 0
    · exact hx
    · have : (φ x != 0) = true := by simpa using hx
      rw [this] at h
      exact h
theorem fit_of {v : Veh} {p : Plc} {lvl : Int} (h : s116 v p = 0) (hl : s114 lvl 0 v.2.1 = false) : Fit v p lvl := by
  obtain ⟨h1, h2⟩ := nz2 h
  have h3 : vehBad v = 0 := by
    unfold s12 vehsFault at h1
    simp only [List.length_singleton, show ¬ (1 > 200) by omega, if_false] at h1
    exact one_fault h1
  have h4 : plcBad p = 0 := by
    unfold s15 plcsFault at h2
    simp only [List.length_singleton, show ¬ (1 > 50) by omega, if_false] at h2
    exact one_fault h2
  unfold vehBad at h3
  unfold plcBad at h4
  have hb : ∀ (b : Bool) (x : Int), (bif b then 1 else x) = 0 → b = false ∧ x = 0 := fun b x h => by cases b <;> simp_all
  obtain ⟨v1, h3⟩ := hb _ _ h3
  obtain ⟨v2, h3⟩ := hb _ _ h3
  obtain ⟨v3, h3⟩ := hb _ _ h3
  obtain ⟨v4, h3⟩ := hb _ _ h3
  obtain ⟨p1, h4⟩ := hb _ _ h4
  obtain ⟨p2, h4⟩ := hb _ _ h4
  have ho : ∀ a b c : Int, s114 a b c = false → b ≤ a ∧ a ≤ c := fun a b c h => by
    unfold s114 at h
    simp only [Bool.or_eq_false_iff, decide_eq_false_iff_not] at h
    omega
  obtain ⟨a1, a2⟩ := ho _ _ _ v1
  obtain ⟨a3, a4⟩ := ho _ _ _ v3
  obtain ⟨a5, a6⟩ := ho _ _ _ v4
  obtain ⟨a7, a8⟩ := ho _ _ _ p2
  obtain ⟨a9, a10⟩ := ho _ _ _ hl
  refine ⟨a1, a2, a5, a6, ?_, ?_, a9, a10⟩ <;> unfold powerOf <;> split <;> omega
def s117 (v : Veh) (p : Plc) (lvl : Int) : Bat := ((IntKind.i64.wrap (lvl * (3600000000 : Int))), (IntKind.i64.wrap ((IntKind.i64.wrap (Int.tdiv (IntKind.i64.wrap (v.2.1 * v.2.2.2.2.1)) (1000 : Int))) * (3600000000 : Int))), (IntKind.i64.wrap (v.2.1 * (3600000000 : Int))), (IntKind.i64.wrap ((1000 : Int) * (powerOf v p))), ())
theorem h117 (v : Veh) (p : Plc) (lvl : Int) (hw : WFs A117 (v, p, lvl, ())) : ∃ k, f117 k v p lvl = some (s117 v p lvl, ()) := ⟨0, rfl⟩
theorem s117_eq {v : Veh} {p : Plc} {lvl : Int} (R : Fit v p lvl) : s117 v p lvl = (lvl * 3600000000, slowOf v, v.2.1 * 3600000000, 1000 * powerOf v p, ()) := by
  obtain ⟨w1, w2, w3, w4, w5⟩ := R.wraps
  unfold s117
  rw [w1, w2, w3, w4]
def s18 (v : Veh) (p : Plc) (lvl long : Int) : Int × Int × Unit :=
  if s116 v p ≠ 0 then (0, s116 v p, ()) else bif s114 lvl 0 v.2.1 then (0, 1, ()) else bif s114 long 0 2592000000 then (0, 1, ()) else (gainAt v p lvl long, 0, ())
def s19 (v : Veh) (p : Plc) (lvl want : Int) : Int × Int × Unit :=
  if s116 v p ≠ 0 then (0, s116 v p, ()) else bif s114 lvl 0 v.2.1 then (0, 1, ()) else bif s114 want 0 v.2.1 then (0, 1, ()) else (needAt v p lvl want, 0, ())
theorem out_false {a b c : Int} (h : s114 a b c = false) : b ≤ a ∧ a ≤ c := by
  unfold s114 at h
  simp only [Bool.or_eq_false_iff, decide_eq_false_iff_not] at h
  omega
theorem h18 (v : Veh) (p : Plc) (lvl long : Int) (hw : WFs A18 (v, p, lvl, long, ())) : ∃ k, f18 s114 s116 s117 s118 k v p lvl long = some (s18 v p lvl long) := by
  refine ⟨0, ?_⟩
  unfold f18 s18
  by_cases h : s116 v p = 0
  · have h0 : (s116 v p != 0) = false := by simpa using h
    simp only [h0, cond_false, h, ne_eq, not_true_eq_false, if_false]
    cases hl : s114 lvl 0 v.2.1
    · simp only [cond_false]
      cases hg : s114 long 0 2592000000
      · simp only [cond_false]
        have R := fit_of h hl
        obtain ⟨g1, g2⟩ := out_false hg
        rw [s117_eq R, after_ok R.good g1 g2]
        simp only [Option.bind_some]
        have hX : ∀ Y : Int, Int.tdiv (min (v.2.1 * 3600000000) Y) 3600000000 = IntKind.i64.wrap (Int.tdiv (min (v.2.1 * 3600000000) Y) 3600000000) ∨ Y < 0 := fun Y => by
          by_cases hY : 0 ≤ Y
          · left
            have := R.f1; have := R.f2
            rw [Int.tdiv_eq_ediv_of_nonneg (by omega)]
            exact (wrap_ok (by omega) (by omega)).symm
          · right; omega
        have G := R.good
        have hX0 : 0 ≤ X (lvl * 3600000000) (slowOf v) (1000 * powerOf v p) (500 * powerOf v p) long := by
          have := (needAt_facts (want := 0) R (by omega) (by have := R.f1; omega)).2.2 long g1
          have hz : gainAt v p lvl long = gainAt v p lvl long := rfl
          have h0 := X_mono (L := lvl * 3600000000) (S := slowOf v) (f := 1000 * powerOf v p) (g := 500 * powerOf v p) (by have := G.q1; omega) (by have := G.q1; omega) (by have := G.q1; omega) g1
          have : X (lvl * 3600000000) (slowOf v) (1000 * powerOf v p) (500 * powerOf v p) 0 = lvl * 3600000000 := by
            unfold X
            split
            · have h3 := (cd_lt (a := slowOf v - lvl * 3600000000) (b := 1000 * powerOf v p) (by omega) (by have := G.q1; omega)).2.2
              rw [Int.min_eq_left h3]
              simp
            · simp
          have := G.L0
          omega
        rcases hX (X (lvl * 3600000000) (slowOf v) (1000 * powerOf v p) (500 * powerOf v p) long) with e | e
        · rw [← e]; rfl
        · omega
      · rfl
    · rfl
  · have h0 : (s116 v p != 0) = true := by simpa using h
    simp only [h0, cond_true, ne_eq, h, not_false_eq_true, if_true]
theorem h19 (v : Veh) (p : Plc) (lvl want : Int) (hw : WFs A19 (v, p, lvl, want, ())) : ∃ k, f19 s114 s116 s117 s119 k v p lvl want = some (s19 v p lvl want) := by
  refine ⟨0, ?_⟩
  unfold f19 s19
  by_cases h : s116 v p = 0
  · have h0 : (s116 v p != 0) = false := by simpa using h
    simp only [h0, cond_false, h, ne_eq, not_true_eq_false, if_false]
    cases hl : s114 lvl 0 v.2.1
    · simp only [cond_false]
      cases hg : s114 want 0 v.2.1
      · simp only [cond_false]
        have R := fit_of h hl
        obtain ⟨g1, g2⟩ := out_false hg
        have := R.f2
        rw [s117_eq R, wrap_ok (n := want * 3600000000) (by omega) (by omega), needs_ok R.good (by omega) (by omega)]
        rfl
      · rfl
    · rfl
  · have h0 : (s116 v p != 0) = true := by simpa using h
    simp only [h0, cond_true, ne_eq, h, not_false_eq_true, if_true]
/-! ### drivers, at one input -/
def s148 (a b : Int × Int × Unit) : Int := nz [s128 a.1 b.1, s128 a.2.1 b.2.1]
theorem h148 (a b : Int × Int × Unit) (hw : WFs A148 (a, b, ())) : ∃ k, f148 s127 s128 k a b = some (s148 a b, ()) := ⟨0, rfl⟩
def s53 (l : List (Int × Int × Unit)) : Option (Int × Unit) := f53 s148 20 l
def s142 (l : List (Int × Int × Unit)) : Option (List Int × Int × Unit) := f142 20 l
def s45 (l : List (Int × Int × Unit)) : Option (Int × Int × Unit) := f45 s53 s142 20 l
def s24 : Option (Bool × Unit) := f24 s45 20
theorem h53 (l : List (Int × Int × Unit)) (y : Int × Unit) (hw : WFs A53 (l, ())) (h : s53 l = some y) : ∃ k, f53 s148 k l = some y := ⟨20, h⟩
theorem h142 (l : List (Int × Int × Unit)) (y : List Int × Int × Unit) (hw : WFs A142 (l, ())) (h : s142 l = some y) : ∃ k, f142 k l = some y := ⟨20, h⟩
theorem h45 (l : List (Int × Int × Unit)) (y : Int × Int × Unit) (hw : WFs A45 (l, ())) (h : s45 l = some y) : ∃ k, f45 s53 s142 k l = some y := ⟨20, h⟩
theorem h24 (y : Bool × Unit) (hw : WFs A24 ()) (h : s24 = some y) : ∃ k, f24 s45 k = some y := ⟨20, h⟩
theorem s24_true : s24 = some (true, ()) := by kernel_rfl
end Go.Vm
