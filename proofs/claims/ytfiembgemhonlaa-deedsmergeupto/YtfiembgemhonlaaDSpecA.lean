/- DeedsMerge: small functions; what is wrong with a deed; their order. Own work. -/
import Derived.Test.YtfiembgemhonlaaDFn
import Derived.Test.YtfiembgemhonlaaDHand
import Derived.Test.YtfiembgemhonlaaSSpec
import Derived.Test.YtfiembgemhonlaaVmQ
set_option linter.unusedVariables false
set_option linter.unusedSimpArgs false
namespace Go.Vm
open Go.RowKit Go.Vm.Gain
abbrev Rd : Type := ByteArray × ByteArray × ByteArray × ByteArray × Int × Int × Int × Int × Unit
abbrev Cr : Type := ByteArray × Int × Int × Unit
abbrev Dd : Type := ByteArray × Int × Int × Int × ByteArray × ByteArray × Cr × Rd × Unit
abbrev dSite (d : Dd) : ByteArray := d.1
abbrev dNo (d : Dd) : Int := d.2.1
abbrev dAt (d : Dd) : Int := d.2.2.1
abbrev dKind (d : Dd) : Int := d.2.2.2.1
abbrev dKey (d : Dd) : ByteArray := d.2.2.2.2.1
abbrev dNode (d : Dd) : ByteArray := d.2.2.2.2.2.1
abbrev dCar (d : Dd) : Cr := d.2.2.2.2.2.2.1
abbrev dRide (d : Dd) : Rd := d.2.2.2.2.2.2.2.1
theorem sEq_self (a : ByteArray) : sEq a a = true := sEq_iff.2 rfl
/-! ### strings.Compare -/
def s129 (a b : ByteArray) : Int := cmpS a b
theorem h129 (a b : ByteArray) (hw : WFs A129 (a, b, ())) : ∃ k, f129 s211 k a b = some (s129 a b, ()) := ⟨0, rfl⟩
def s227 (n : Int) : Int := if n < 0 then -1 else if n > 0 then 1 else 0
theorem h227 (n : Int) (hw : WFs A227 (n, ())) : ∃ k, f227 k n = some (s227 n, ()) := ⟨0, by
  unfold f227 s227
  by_cases h : n < 0
  · simp [h]
  · by_cases h2 : n > 0 <;> simp [h, h2]⟩
/-! ### rides -/
def s335 (s : ByteArray) : Bool := !key s
theorem h335 (s : ByteArray) (hw : WFs A335 (s, ())) : ∃ k, f335 s113 k s = some (s335 s, ()) := ⟨0, rfl⟩
def s289 (l : List ByteArray) : Bool := l.all key
theorem all_find {α : Type} (p : α → Bool) (l : List α) : l.all p = (l.findIdx? fun x => !p x).isNone := by
  induction l with
  | nil => rfl
  | cons x l ih =>
    simp only [List.all_cons, List.findIdx?_cons, ih]
    cases p x
    · rfl
    · simp
theorem h289 (l : List ByteArray) (hw : WFs A289 (l, ())) : ∃ k, f289 s335 k l = some (s289 l, ()) := by
  simp only [WFs, WF] at hw
  have hl : l.length ≤ 9223372036854775807 := hw.1.1
  refine ⟨l.length + 1, ?_⟩
  unfold f289 s289
  rw [iter_find (s0 := (((0 : Int), ()), ())) l (fun i => (((i : Int), ()), ())) (fun s => !key s) (fun i => .inl (false, ())) (.inr ((), ())) ?a1 ?a2 ?a3 ?a4]
  case a1 => rfl
  case a2 => omega
  case a3 =>
    intro j x hx
    simp only [lt_at hx, inR_at hx, rd_at hx, wrap_succ hx hl, cond_true, s335]
    have : (!decide ((j : Int) ≥ 0)) = false := by simp
    rw [this]
    cases key x <;> rfl
  case a4 => simp
  rw [all_find]
  cases l.findIdx? (fun s => !key s) <;> rfl
/-- what is wrong with a ride -/
def rFault (r : Rd) : Int :=
  bif !(key r.1 && (key r.2.1 && (key r.2.2.1 && key r.2.2.2.1))) then 5 else bif sEq r.2.2.1 r.2.2.2.1 then 6 else bif !s121 r.2.2.2.2.1 then 1
  else bif s114 r.2.2.2.2.2.1 (IntKind.i64.wrap (r.2.2.2.2.1 + 1)) 345686400000 then 1 else bif s114 r.2.2.2.2.2.2.1 0 60 then 1 else bif s114 r.2.2.2.2.2.2.2.1 0 60 then 1
  else bif IntKind.i64.wrap (r.2.2.2.2.2.2.1 + r.2.2.2.2.2.2.2.1) == 0 then 3 else 0
def s235 := rFault
def s226 := rFault
theorem cond_one {α : Type} (b : Bool) (x y : α) : (bif b then (some (x, ()) : Option (α × Unit)) else some (y, ())) = some (bif b then x else y, ()) := by cases b <;> rfl
theorem h235 (r : Rd) (hw : WFs A235 (r, ())) : ∃ k, f235 s114 s121 s289 k r = some (s235 r, ()) := ⟨0, by
  unfold f235 s235 rFault s289
  simp only [cond_one, List.all_cons, List.all_nil, Bool.and_true]⟩
theorem h226 (r : Rd) (hw : WFs A226 (r, ())) : ∃ k, f226 s31 s115 s125 k r = some (s226 r, ()) := ⟨0, by
  unfold f226 s226 rFault
  simp only [cond_one, in_not_out, show s31 = key from rfl, show s125 = s121 from rfl]
  cases key r.1 <;> cases key r.2.1 <;> cases key r.2.2.1 <;> cases key r.2.2.2.1 <;> rfl⟩
/-! ### deeds -/
def zC (c : Cr) : Bool := sEq c.1 ByteArray.empty && (c.2.1 == 0 && (c.2.2.1 == 0 && true))
def zR (r : Rd) : Bool := sEq r.1 ByteArray.empty && (sEq r.2.1 ByteArray.empty && (sEq r.2.2.1 ByteArray.empty && (sEq r.2.2.2.1 ByteArray.empty && (r.2.2.2.2.1 == 0 && (r.2.2.2.2.2.1 == 0 && (r.2.2.2.2.2.2.1 == 0 && (r.2.2.2.2.2.2.2.1 == 0 && true)))))))
/-- what is wrong with a deed -/
def dFault (d : Dd) : Int :=
  bif !key (dSite d) then 5 else bif s114 (dNo d) 1 1000000 then 1 else bif !s121 (dAt d) then 1 else bif s114 (dKind d) 1 4 then 4 else
  bif dKind d == 1 then (bif !key (dCar d).1 then 5 else bif !key (dNode d) then 5 else bif s114 (dCar d).2.1 0 60 then 1 else bif s114 (dCar d).2.2.1 0 60 then 1 else bif !(sEq (dKey d) ByteArray.empty && zR (dRide d)) then 3 else 0)
  else bif dKind d == 3 then (bif rFault (dRide d) != 0 then rFault (dRide d) else bif !(sEq (dKey d) ByteArray.empty && (sEq (dNode d) ByteArray.empty && zC (dCar d))) then 3 else 0)
  else (bif !key (dKey d) then 5 else bif !(sEq (dNode d) ByteArray.empty && (zC (dCar d) && zR (dRide d))) then 3 else 0)
def s167 := dFault
def s153 := dFault
theorem h167 (d : Dd) (hw : WFs A167 (d, ())) : ∃ k, f167 s113 s114 s121 s235 k d = some (s167 d, ()) := ⟨0, by
  unfold f167 s167 dFault
  simp only [show s113 = key from rfl, show s235 = rFault from rfl]
  cases key (dSite d)
  · rfl
  cases s114 (dNo d) 1 1000000
  rotate_left
  · rfl
  cases s121 (dAt d)
  · rfl
  cases s114 (dKind d) 1 4
  rotate_left
  · rfl
  cases h1 : dKind d == 1
  · cases h3 : dKind d == 3
    · cases key (dKey d)
      · rfl
      simp only [Bool.not_true, cond_false, cond_true, Option.bind_some, sEq_self, beq_self_eq_true, Bool.true_and, h1, h3]
      simp only [zC, zR, Bool.and_true, cond_one, Bool.and_assoc]
    · cases he : rFault (dRide d) != 0
      · simp only [Bool.not_true, cond_false, cond_true, Option.bind_some, sEq_self, beq_self_eq_true, Bool.true_and, Bool.and_true, h1, h3, he]
        simp only [zC, zR, Bool.and_true, cond_one, Bool.and_assoc]
      · simp only [Bool.not_true, cond_false, cond_true, Option.bind_some, h1, h3, he]
  · cases key (dCar d).1
    · simp only [Bool.not_true, Bool.not_false, cond_false, cond_true, Option.bind_some, h1]
    cases key (dNode d)
    · simp only [Bool.not_true, Bool.not_false, cond_false, cond_true, Option.bind_some, h1]
    cases s114 (dCar d).2.1 0 60
    rotate_left
    · simp only [Bool.not_true, Bool.not_false, cond_false, cond_true, Option.bind_some, h1]
    cases s114 (dCar d).2.2.1 0 60
    rotate_left
    · simp only [Bool.not_true, Bool.not_false, cond_false, cond_true, Option.bind_some, h1]
    simp only [Bool.not_true, cond_false, cond_true, Option.bind_some, sEq_self, beq_self_eq_true, Bool.true_and, Bool.and_true, h1]
    simp only [zC, zR, Bool.and_true, cond_one, Bool.and_assoc]⟩
theorem h153 (d : Dd) (hw : WFs A153 (d, ())) : ∃ k, f153 s31 s115 s125 s226 k d = some (s153 d, ()) := ⟨0, by
  unfold f153 s153 dFault
  simp only [show s31 = key from rfl, show s226 = rFault from rfl, show s125 = s121 from rfl, in_not_out]
  have ez : sEq (ByteArray.mk #[]) ByteArray.empty = true := by decide +kernel
  have ez2 : sEq ByteArray.empty ByteArray.empty = true := by decide +kernel
  cases key (dSite d)
  · rfl
  cases s114 (dNo d) 1 1000000
  rotate_left
  · rfl
  cases s121 (dAt d)
  · rfl
  cases s114 (dKind d) 1 4
  rotate_left
  · rfl
  cases h1 : dKind d == 1
  · cases h3 : dKind d == 3
    · cases key (dKey d)
      · rfl
      simp only [Bool.not_true, cond_false, cond_true, Option.bind_some, ez, ez2, beq_self_eq_true, Bool.true_and, Bool.and_true, h1, h3]
      simp only [zC, zR, Bool.and_true, cond_one, Bool.and_assoc]
    · cases he : rFault (dRide d) != 0
      · simp only [Bool.not_true, cond_false, cond_true, Option.bind_some, ez, ez2, beq_self_eq_true, Bool.true_and, Bool.and_true, h1, h3, he]
        simp only [zC, zR, Bool.and_true, cond_one, Bool.and_assoc]
      · simp only [Bool.not_true, cond_false, cond_true, Option.bind_some, h1, h3, he]
  · cases key (dCar d).1
    · simp only [Bool.not_true, Bool.not_false, cond_false, cond_true, Option.bind_some, h1]
    cases key (dNode d)
    · simp only [Bool.not_true, Bool.not_false, cond_false, cond_true, Option.bind_some, h1]
    cases s114 (dCar d).2.1 0 60
    rotate_left
    · simp only [Bool.not_true, Bool.not_false, cond_false, cond_true, Option.bind_some, h1]
    cases s114 (dCar d).2.2.1 0 60
    rotate_left
    · simp only [Bool.not_true, Bool.not_false, cond_false, cond_true, Option.bind_some, h1]
    simp only [Bool.not_true, cond_false, cond_true, Option.bind_some, ez, ez2, beq_self_eq_true, Bool.true_and, Bool.and_true, h1]
    simp only [zC, zR, Bool.and_true, cond_one, Bool.and_assoc]⟩
/-! ### their order -/
def dCmp : Dd → Dd → Int := lexC (fun a b => cmpI (dAt a) (dAt b)) (lexC (fun a b => cmpS (dSite a) (dSite b)) (fun a b => cmpI (dNo a) (dNo b)))
theorem dCmp_ok : CmpOK dCmp (fun _ => True) := (cmpI_ok.on dAt).lex ((cmpS_ok.on dSite).lex (cmpI_ok.on dNo))
def s160 (a b : Dd) : Int := dCmp a b
theorem nz_lex (a b c : Int) : nz [a, b, c] = if a = 0 then (if b = 0 then c else b) else a := by
  simp only [nz]
  by_cases ha : a = 0
  · by_cases hb : b = 0
    · by_cases hc : c = 0 <;> simp [ha, hb, hc]
    · simp [ha, hb]
  · simp [ha]
theorem h160 (a b : Dd) (hw : WFs A160 (a, b, ())) : ∃ k, f160 s127 s128 s129 k a b = some (s160 a b, ()) := ⟨0, by
  unfold f160 s160 s127
  rw [nz_lex]
  rfl⟩
def s154 (a b : Dd) : Int := bif dAt a != dAt b then s227 (IntKind.i64.wrap (dAt a - dAt b)) else bif !sEq (dSite a) (dSite b) then cmpS (dSite a) (dSite b) else s227 (IntKind.i64.wrap (dNo a - dNo b))
theorem h154 (a b : Dd) (hw : WFs A154 (a, b, ())) : ∃ k, f154 s129 s227 k a b = some (s154 a b, ()) := ⟨0, by
  unfold f154 s154
  simp only [cond_one]; rfl⟩
/-- a deed whose numbers are moderate -/
def Small (d : Dd) : Prop := 0 ≤ dAt d ∧ dAt d < 345686400000 ∧ 0 ≤ dNo d ∧ dNo d ≤ 1000001
theorem sub_sign {a b : Int} (h1 : 0 ≤ a) (h2 : a < 345686400000) (h3 : 0 ≤ b) (h4 : b < 345686400000) : s227 (IntKind.i64.wrap (a - b)) = cmpI a b := by
  rw [wrap_ok (by omega) (by omega)]
  unfold s227 cmpI
  by_cases h : a < b
  · rw [if_pos (by omega), if_pos h]
  · rw [if_neg (by omega), if_neg h]
    by_cases h' : a > b
    · rw [if_pos (by omega), if_pos h']
    · rw [if_neg (by omega), if_neg h']
theorem s154_cmp {a b : Dd} (ha : Small a) (hb : Small b) : s154 a b = dCmp a b := by
  obtain ⟨a1, a2, a3, a4⟩ := ha
  obtain ⟨b1, b2, b3, b4⟩ := hb
  unfold s154 dCmp lexC
  by_cases h : dAt a = dAt b
  · have e1 : (dAt a != dAt b) = false := by simp [h]
    rw [e1, cond_false, if_pos (cmpI_zero.2 h)]
    by_cases h2 : dSite a = dSite b
    · rw [show sEq (dSite a) (dSite b) = true from sEq_iff.2 h2, if_pos (cmpS_zero.2 h2)]
      exact sub_sign a3 (by omega) b3 (by omega)
    · have e2 : sEq (dSite a) (dSite b) = false := by rw [← Bool.not_eq_true]; exact fun e => h2 (sEq_iff.1 e)
      rw [e2, if_neg (fun e => h2 (cmpS_zero.1 e))]
      rfl
  · have e1 : (dAt a != dAt b) = true := by simp [h]
    rw [e1, cond_true, if_neg (fun e => h (cmpI_zero.1 e))]
    exact sub_sign a1 a2 b1 b2
theorem cond_zero {b : Bool} {x y : Int} (h : (bif b then x else y) = 0) (hx : x ≠ 0) : b = false ∧ y = 0 := by
  cases b
  · exact ⟨rfl, h⟩
  · exact absurd h hx
theorem outd_false {a b c : Int} (h : s114 a b c = false) : b ≤ a ∧ a ≤ c := by
  unfold s114 at h
  simp only [Bool.or_eq_false_iff, decide_eq_false_iff_not] at h
  omega
theorem small_of {d : Dd} (h : dFault d = 0) : Small d ∧ (1 ≤ dKind d ∧ dKind d ≤ 4) := by
  unfold dFault at h
  obtain ⟨h1, h⟩ := cond_zero h (by decide)
  obtain ⟨h2, h⟩ := cond_zero h (by decide)
  obtain ⟨h3, h⟩ := cond_zero h (by decide)
  obtain ⟨h4, h⟩ := cond_zero h (by decide)
  simp only [Bool.not_eq_false'] at h1 h3
  unfold s121 at h3
  simp only [Bool.not_eq_true'] at h3
  have := outd_false h2
  have := outd_false h3
  have := outd_false h4
  exact ⟨⟨by omega, by omega, by omega, by omega⟩, by omega⟩
def s157 (a b : Dd) : Bool := sEq (dSite a) (dSite b) && (dNo a == dNo b)
theorem h157 (a b : Dd) (hw : WFs A157 (a, b, ())) : ∃ k, f157 k a b = some (s157 a b, ()) := ⟨0, by
  unfold f157 s157
  show (bif sEq (dSite a) (dSite b) then _ else _) = _
  cases sEq (dSite a) (dSite b) <;> rfl⟩
def s230 (a b : Dd) : Int := cmpS (dCar a).1 (dCar b).1
theorem h230 (a b : Dd) (hw : WFs A230 (a, b, ())) : ∃ k, f230 s129 k a b = some (s230 a b, ()) := ⟨0, rfl⟩
def s232 (a b : Rd) : Int := cmpS a.1 b.1
theorem h232 (a b : Rd) (hw : WFs A232 (a, b, ())) : ∃ k, f232 s129 k a b = some (s232 a b, ()) := ⟨0, rfl⟩
end Go.Vm
