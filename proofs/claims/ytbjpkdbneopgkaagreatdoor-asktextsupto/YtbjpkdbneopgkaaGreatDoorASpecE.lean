/- AskTexts: what is wrong with asks, their order. Own work. -/
import Derived.Test.YtbjpkdbneopgkaaGreatDoorASpecD
set_option maxRecDepth 100000
set_option linter.unusedVariables false
set_option linter.unusedSimpArgs false
namespace Go.Vm
open Go.RowKit
abbrev Ask : Type := Int × Int × Rr × Unit
abbrev kAt (a : Ask) : Int := a.1
abbrev kKind (a : Ask) : Int := a.2.1
abbrev kRide (a : Ask) : Rr := a.2.2.1
/-- nothing but the two keys -/
def bare (r : Rr) : Bool := sEq r.2.2.1 ByteArray.empty && (sEq r.2.2.2.1 ByteArray.empty && (r.2.2.2.2.1 == 0 && (r.2.2.2.2.2.1 == 0 && (r.2.2.2.2.2.2.1 == 0 && (r.2.2.2.2.2.2.2.1 == 0 && true)))))
def askBad (a : Ask) : Int :=
  bif !s105 (kAt a) then 1 else bif s99 (kKind a) 1 4 then 4 else bif (kKind a == 1) || (kKind a == 2) then rideBad (kRide a) else
  bif !(key (kRide a).1 && key (kRide a).2.1) then 5 else bif !bare (kRide a) then 3 else 0
def aCmp : Ask → Ask → Int := lexC (fun a b => cmpI (kAt a) (kAt b)) (lexC (fun a b => cmpS (kRide a).1 (kRide b).1) (fun a b => cmpI (kKind a) (kKind b)))
theorem aCmp_ok : CmpOK aCmp (fun _ => True) := (cmpI_ok.on kAt).lex ((cmpS_ok.on fun a : Ask => (kRide a).1).lex (cmpI_ok.on kKind))
def s77 (a : Ask) : Int := askBad a
theorem h77 (a : Ask) (hw : WFs A77 (a, ())) : ∃ k, f77 s99 s105 s106 s107 k a = some (s77 a, ()) := by
  refine ⟨0, ?_⟩
  unfold f77 s77 askBad bare s107
  simp only [sEq_self, Bool.true_and, List.all_cons, List.all_nil, Bool.and_true, show s106 = rideBad from rfl]
  cases s105 a.1
  · rfl
  cases s99 a.2.1 1 4
  rotate_left
  · rfl
  cases (a.2.1 == 1)
  rotate_left
  · rfl
  cases (a.2.1 == 2)
  rotate_left
  · rfl
  cases key a.2.2.1.1 <;> cases key a.2.2.1.2.1 <;> first | rfl | (simp only [Bool.and_self, Bool.not_true, Bool.or_self, cond_false]; generalize (sEq a.2.2.1.2.2.1 ByteArray.empty && _) = q; cases q <;> rfl)
def s78 (a b : Ask) : Int := aCmp a b
theorem h78 (a b : Ask) (hw : WFs A78 (a, b, ())) : ∃ k, f78 s76 s108 s109 k a b = some (s78 a b, ()) := ⟨0, by
  unfold f78 s78 aCmp lexC s108 s76
  rw [nz_lex]
  rfl⟩
theorem small_ask {a : Ask} (h : askBad a = 0) : (0 ≤ kAt a ∧ kAt a < 345686400000) ∧ (1 ≤ kKind a ∧ kKind a ≤ 4) := by
  unfold askBad at h
  cases h1 : s105 (kAt a)
  · rw [h1] at h; cases h
  cases h2 : s99 (kKind a) 1 4
  rotate_left
  · rw [h1, h2] at h; cases h
  unfold s105 s99 at h1
  unfold s99 at h2
  simp at h1 h2
  omega
def s35 (a b : Ask) : Int := bif (kAt a != kAt b) then s75 (IntKind.i64.wrap (kAt a - kAt b)) else bif !sEq (kRide a).1 (kRide b).1 then s76 (kRide a).1 (kRide b).1 else s75 (IntKind.i64.wrap (kKind a - kKind b))
theorem h35 (a b : Ask) (hw : WFs A35 (a, b, ())) : ∃ k, f35 s75 s76 k a b = some (s35 a b, ()) := ⟨0, by
  unfold f35 s35
  cases (a.1 != b.1)
  · simp only [cond_false]
    cases sEq a.2.2.1.1 b.2.2.1.1 <;> rfl
  · rfl⟩
theorem s35_cmp {a b : Ask} (ha : askBad a = 0) (hb : askBad b = 0) : s35 a b = aCmp a b := by
  obtain ⟨⟨h1, h2⟩, h3, h4⟩ := small_ask ha
  obtain ⟨⟨g1, g2⟩, g3, g4⟩ := small_ask hb
  unfold s35 aCmp lexC
  rw [sub_sign h1 h2 g1 g2, sub_sign (by omega) (by omega) (by omega) (by omega)]
  by_cases e : kAt a = kAt b
  · have e1 : cmpI (kAt a) (kAt b) = 0 := by rw [e]; unfold cmpI; simp
    rw [show (kAt a != kAt b) = false from by simpa using e]
    simp only [cond_false]
    rw [if_pos e1]
    by_cases e2 : (kRide a).1 = (kRide b).1
    · rw [e2, sEq_self, if_pos (cmpS_ok.self trivial)]
      rfl
    · have : sEq (kRide a).1 (kRide b).1 = false := by
        cases h : sEq (kRide a).1 (kRide b).1
        · rfl
        · exact absurd (sEq_iff.1 h) e2
      rw [this, if_neg (fun h => e2 (cmpS_zero.1 h))]
      rfl
  · rw [show (kAt a != kAt b) = true from by simpa using e]
    simp only [cond_true]
    rw [if_neg (by unfold cmpI; split <;> (try split) <;> omega)]
def asksFault (l : List Ask) : Int := if l.length > 2000 then 2 else chkP askBad (fun o x => decide (aCmp x o ≤ 0)) none l
def s38 (l : List Ask) : Int := asksFault l
def s6 (l : List Ask) : Int := asksFault l
theorem chk_end (c : Int) : (match (bif c != 0 then (Sum.inl (c, ()) : (Int × Unit) ⊕ (Unit × Unit)) else .inr ((), ())) with | .inl z => some z | .inr _ => some ((0 : Int), ())) = some (c, ()) := by
  cases h : c != 0
  · have : c = 0 := by simpa using h
    rw [this]; rfl
  · rfl
theorem h38 (l : List Ask) (hw : WFs A38 (l, ())) : ∃ k, f38 s77 s78 k l = some (s38 l, ()) := by
  simp only [WFs, WF] at hw
  have hl : l.length ≤ 9223372036854775807 := hw.1.1
  clear hw
  refine ⟨l.length + 1, ?_⟩
  unfold f38 s38 asksFault
  rw [show (2000 : Int) = ((2000 : Nat) : Int) from rfl, len_gt]
  by_cases hn : l.length > 2000
  · simp [hn]
  · simp only [hn, decide_false, cond_false, if_false]
    rw [iter_chkP (xs := l) askBad (fun o x => decide (aCmp x o ≤ 0)) ?a1 ?a2]
    case a2 => simp
    case a1 =>
      intro j x p hx hp
      simp only [lt_at hx, inR_at hx, rd_at hx, wrap_succ hx hl, cond_true, chkPB, ordP, show s77 = askBad from rfl]
      cases hb : askBad x != 0
      · simp only [cond_false]
        rcases hp with ⟨rfl, rfl⟩ | ⟨o, hj, ho, rfl⟩
        · rfl
        · have e0 : decide (((j : Nat) : Int) > 0) = true := by simp; omega
          simp only [e0, prev_ix hl hj ho, inR_at ho, rd_at ho, cond_true, s78]
          cases decide (aCmp x o ≤ 0) <;> rfl
      · rfl
    exact chk_end _
theorem ask_ord_same (o x : Ask) (ho : askBad o = 0) (hx : askBad x = 0) : decide (s35 o x ≥ 0) = decide (aCmp x o ≤ 0) := by
  rw [s35_cmp ho hx]
  congr 1
  apply propext
  exact (aCmp_ok.flip_le trivial trivial).symm
theorem h6 (l : List Ask) (hw : WFs A6 (l, ())) : ∃ k, f6 s31 s32 s33 s34 s35 k l = some (s6 l, ()) := by
  simp only [WFs, WF] at hw
  have hl : l.length ≤ 9223372036854775807 := hw.1.1
  clear hw
  refine ⟨l.length + 1, ?_⟩
  unfold f6 s6 asksFault
  rw [show (2000 : Int) = ((2000 : Nat) : Int) from rfl, len_gt]
  by_cases hn : l.length > 2000
  · simp [hn]
  · simp only [hn, decide_false, cond_false, if_false]
    rw [iter_chkP (xs := l) askBad (fun o x => decide (s35 o x ≥ 0)) ?a1 ?a2]
    case a2 => simp
    case a1 =>
      intro j x p hx hp
      have ek : s34 = key := rfl
      have er : s33 = rideBad := rfl
      have em : s31 x.1 = s105 x.1 := rfl
      simp only [lt_at hx, inR_at hx, rd_at hx, wrap_succ hx hl, cond_true, ek, er, em, in_out, Bool.not_not, sEq_self, Bool.true_and]
      unfold chkPB askBad bare
      rcases hp with ⟨rfl, rfl⟩ | ⟨o, hj, ho, rfl⟩
      · simp only [ordP]
        cases s105 x.1
        · rfl
        cases s99 x.2.1 1 4
        rotate_left
        · rfl
        cases (x.2.1 == 1)
        · cases (x.2.1 == 2)
          · cases key x.2.2.1.1
            · rfl
            cases key x.2.2.1.2.1
            · rfl
            cases (sEq x.2.2.1.2.2.1 ByteArray.empty && _) <;> rfl
          · cases hr : rideBad x.2.2.1 != 0 <;> simp only [Bool.not_false, Bool.not_true, cond_false, cond_true, Bool.or_true, Option.bind_some, hr]
            rfl
        · cases hr : rideBad x.2.2.1 != 0 <;> simp only [Bool.not_false, Bool.not_true, cond_false, cond_true, Bool.true_or, Option.bind_some, hr]
          rfl
      · have e0 : decide (((j : Nat) : Int) > 0) = true := by simp; omega
        simp only [e0, prev_ix hl hj ho, inR_at ho, rd_at ho, cond_true, ordP]
        cases s105 x.1
        · rfl
        cases s99 x.2.1 1 4
        rotate_left
        · rfl
        cases (x.2.1 == 1)
        · cases (x.2.1 == 2)
          · cases key x.2.2.1.1
            · rfl
            cases key x.2.2.1.2.1
            · rfl
            cases (sEq x.2.2.1.2.2.1 ByteArray.empty && _)
            · rfl
            · cases decide (s35 o x ≥ 0) <;> rfl
          · cases hr : rideBad x.2.2.1 != 0 <;> simp only [Bool.not_false, Bool.not_true, cond_false, cond_true, Bool.or_true, Option.bind_some, hr]
            cases decide (s35 o x ≥ 0) <;> rfl
        · cases hr : rideBad x.2.2.1 != 0 <;> simp only [Bool.not_false, Bool.not_true, cond_false, cond_true, Bool.true_or, Option.bind_some, hr]
          cases decide (s35 o x ≥ 0) <;> rfl
    rw [chkP_congr (o1 := fun o x => decide (s35 o x ≥ 0)) (o2 := fun o x => decide (aCmp x o ≤ 0)) ask_ord_same l none (fun o e => by cases e)]
    exact chk_end _
theorem h37 (hw : WFs A37 ()) : ∃ k, f37 k = some (([ByteArray.mk #[], ByteArray.mk #[110, 101, 119], ByteArray.mk #[99, 104, 97, 110, 103, 101], ByteArray.mk #[99, 97, 110, 99, 101, 108], ByteArray.mk #[109, 105, 115, 115, 101, 100]] : List ByteArray), ()) := ⟨0, rfl⟩
def askWs : List ByteArray := [ByteArray.mk #[110, 101, 119], ByteArray.mk #[99, 104, 97, 110, 103, 101], ByteArray.mk #[99, 97, 110, 99, 101, 108], ByteArray.mk #[109, 105, 115, 115, 101, 100]]
def s40 : List ByteArray := askWs
def s37 : List ByteArray := ByteArray.mk #[] :: askWs
theorem h40 (hw : WFs A40 ()) : ∃ k, f40 k = some (s40, ()) := ⟨0, rfl⟩
end Go.Vm
