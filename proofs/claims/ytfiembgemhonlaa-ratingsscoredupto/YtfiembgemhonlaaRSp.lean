/- RatingsScored: small functions; what is wrong with ratings, and with people. Own work. -/
import Derived.Test.YtfiembgemhonlaaRFn
import Derived.Test.YtfiembgemhonlaaRHand
import Derived.Test.YtfiembgemhonlaaDSp
set_option linter.unusedVariables false
set_option linter.unusedSimpArgs false
namespace Go.Vm
open Go.RowKit Go.Vm.Gain
abbrev Rt : Type := ByteArray × ByteArray × ByteArray × Int × Int × Unit
abbrev rFrom (r : Rt) : ByteArray := r.1
abbrev rTo (r : Rt) : ByteArray := r.2.1
abbrev rRide (r : Rt) : ByteArray := r.2.2.1
abbrev rStars (r : Rt) : Int := r.2.2.2.1
abbrev rAt (r : Rt) : Int := r.2.2.2.2.1
/-! ### strings -/
theorem less_cmp : ∀ a b : List UInt8, Op.bytesLess a b = decide (Lib.compareBytes a b < 0)
  | [], [] => rfl
  | [], _ :: _ => rfl
  | _ :: _, [] => rfl
  | a :: x, b :: y => by
    simp only [Op.bytesLess, Lib.compareBytes]
    by_cases h : a < b
    · simp [h]
    · by_cases h2 : b < a
      · have : (a == b) = false := by
          rw [beq_eq_false_iff_ne]
          rintro rfl
          exact h h2
        simp [h, h2, this]
      · have : a = b := by
          rw [UInt8.lt_iff_toNat_lt] at h h2
          exact UInt8.toNat_inj.1 (by omega)
        subst this
        simp [h, less_cmp x y]
theorem sLt_cmp (a b : ByteArray) : sLt a b = decide (cmpS a b < 0) := by
  unfold sLt cmpS
  rw [ByteArray.toList_eq, ByteArray.toList_eq, less_cmp]
theorem cmp_vals : ∀ a b : List UInt8, Lib.compareBytes a b = -1 ∨ Lib.compareBytes a b = 0 ∨ Lib.compareBytes a b = 1
  | [], [] => by simp [Lib.compareBytes]
  | [], _ :: _ => by simp [Lib.compareBytes]
  | _ :: _, [] => by simp [Lib.compareBytes]
  | a :: x, b :: y => by
    simp only [Lib.compareBytes]
    have := cmp_vals x y
    split
    · simp
    · split
      · simp
      · exact this
theorem cmpS_vals (a b : ByteArray) : cmpS a b = -1 ∨ cmpS a b = 0 ∨ cmpS a b = 1 := cmp_vals _ _
def s263 (a : ByteArray) : Bool := false
theorem h263 (a : ByteArray) (hw : WFs A263 (a, ())) : ∃ k, f263 k a = some (s263 a, ()) := ⟨0, by
  unfold f263 s263
  rw [sEq_self]
  rfl⟩
def s209 (a b : ByteArray) : Int := cmpS a b
theorem h209 (a b : ByteArray) (hw : WFs A209 (a, b, ())) : ∃ k, f209 s263 k a b = some (s209 a b, ()) := ⟨0, by
  unfold f209 s263 s209
  simp only [cond_false, sLt_cmp]
  have hs : sEq a b = decide (cmpS a b = 0) := by
    by_cases h : a = b
    · rw [sEq_iff.2 h, decide_eq_true (cmpS_zero.2 h)]
    · rw [decide_eq_false (fun e => h (cmpS_zero.1 e)), ← Bool.not_eq_true]
      exact fun e => h (sEq_iff.1 e)
  rw [hs]
  rcases cmpS_vals a b with h | h | h <;> rw [h] <;> rfl⟩
/-- the comparison of two lists -/
def cmpL : List ByteArray → List ByteArray → Int
  | [], [] => 0
  | [], _ :: _ => -1
  | _ :: _, [] => 1
  | x :: l, y :: m => if cmpS x y = 0 then cmpL l m else cmpS x y
def s126 (a b : List ByteArray) : Int := cmpL a b
def cmpLB (b : List ByteArray) (j : Nat) (x : ByteArray) (_ : Unit) : Unit ⊕ ((Int × Unit) ⊕ (Unit × Unit)) :=
  match b[j]? with
  | none => .inr (.inl (1, ()))
  | some y => bif cmpS x y != 0 then .inr (.inl (cmpS x y, ())) else .inl ()
theorem cmpL_scan (b : List ByteArray) (n : Nat) : ∀ (l : List ByteArray) (j : Nat), j + l.length = n →
    (match scan (cmpLB b) (fun _ => .inr ((), ())) l j () with | .inl z => some z | .inr _ => bif decide ((n : Int) < (b.length : Int)) then some ((-1 : Int), ()) else some ((0 : Int), ())) = some (cmpL l (b.drop j), ())
  | [], j, hj => by
    simp only [scan]
    have hj : j = n := by simpa using hj
    subst hj
    by_cases h : j < b.length
    · rw [decide_eq_true (by omega), List.drop_eq_getElem_cons h]
      rfl
    · rw [decide_eq_false (by omega), List.drop_eq_nil_of_le (by omega)]
      rfl
  | x :: l, j, hj => by
    simp only [scan, cmpLB]
    by_cases h : j < b.length
    · rw [List.getElem?_eq_getElem h, List.drop_eq_getElem_cons h]
      simp only [cmpL]
      by_cases h0 : cmpS x b[j] = 0
      · rw [show (cmpS x b[j] != 0) = false from by simp [h0], if_pos h0]
        exact cmpL_scan b n l (j + 1) (by simp at hj ⊢; omega)
      · rw [show (cmpS x b[j] != 0) = true from by simpa using h0, if_neg h0]
        rfl
    · rw [List.getElem?_eq_none (by omega), List.drop_eq_nil_of_le (by omega)]
      rfl
theorem h126 (a b : List ByteArray) (hw : WFs A126 (a, b, ())) : ∃ k, f126 s209 k a b = some (s126 a b, ()) := by
  simp only [WFs, WF] at hw
  have hl : a.length ≤ 9223372036854775807 := hw.1.1
  clear hw
  refine ⟨a.length + 1, ?_⟩
  unfold f126 s126
  rw [iter_scan0 (s0 := (((0 : Int), ()), ())) a (fun j _ => (((j : Int), ()), ())) (cmpLB b) (fun _ => .inr ((), ())) () rfl (Nat.lt_succ_self _) ?a1 ?a2]
  case a2 => simp
  case a1 =>
    intro j x u hx
    simp only [lt_at hx, inR_at hx, rd_at hx, wrap_succ hx hl, cond_true, cmpLB]
    by_cases h : j < b.length
    · have hy : b[j]? = some b[j] := List.getElem?_eq_getElem h
      rw [decide_eq_false (by omega), cond_false, inR_at hy, cond_true, rd_at hy, hy]
      simp only [s209]
      cases cmpS x b[j] != 0 <;> rfl
    · rw [decide_eq_true (by omega), List.getElem?_eq_none (by omega)]
      rfl
  have := cmpL_scan b a.length a 0 (by simp)
  rw [List.drop_zero] at this
  exact this
/-! ### the order of ratings -/
def wCmp : Rt → Rt → Int := lexC (fun a b => cmpS (rRide a) (rRide b)) (lexC (fun a b => cmpS (rFrom a) (rFrom b)) (fun a b => cmpS (rTo a) (rTo b)))
theorem wCmp_ok : CmpOK wCmp (fun _ => True) := (cmpS_ok.on rRide).lex ((cmpS_ok.on rFrom).lex (cmpS_ok.on rTo))
def s256 (a b : Rt) : Int := wCmp a b
theorem h256 (a b : Rt) (hw : WFs A256 (a, b, ())) : ∃ k, f256 s127 s129 k a b = some (s256 a b, ()) := ⟨0, by
  unfold f256 s256 s127
  rw [nz_lex]
  rfl⟩
def rCmp : Rt → Rt → Int := lexC wCmp (fun a b => cmpI (rAt a) (rAt b))
theorem rCmp_ok : CmpOK rCmp (fun _ => True) := wCmp_ok.lex (cmpI_ok.on rAt)
def s193 (a b : Rt) : Int := rCmp a b
theorem h193 (a b : Rt) (hw : WFs A193 (a, b, ())) : ∃ k, f193 s127 s128 s256 k a b = some (s193 a b, ()) := ⟨0, by
  unfold f193 s193 s127
  rw [nzp]
  rfl⟩
def s204 (r : Rt) : List ByteArray := [rRide r, rFrom r, rTo r]
theorem h204 (r : Rt) (hw : WFs A204 (r, ())) : ∃ k, f204 k r = some (s204 r, ()) := ⟨0, rfl⟩
theorem key_cmp (a b : Rt) : s126 (s204 a) (s204 b) = wCmp a b := by
  unfold s126 s204 wCmp lexC
  simp only [cmpL]
  by_cases h : cmpS (rTo a) (rTo b) = 0
  · rw [if_pos h]
    split
    · split
      · exact h.symm
      · rfl
    · rfl
  · rw [if_neg h]
def s201 (a b : Rt) : Int := bif wCmp a b != 0 then wCmp a b else s227 (IntKind.i64.wrap (rAt a - rAt b))
theorem h201 (a b : Rt) (hw : WFs A201 (a, b, ())) : ∃ k, f201 s126 s204 s227 k a b = some (s201 a b, ()) := ⟨0, by
  unfold f201 s201
  rw [key_cmp]
  cases wCmp a b != 0 <;> rfl⟩
/-- a rating at a moment that there is -/
def Timed (r : Rt) : Prop := 0 ≤ rAt r ∧ rAt r < 345686400000
instance : DecidablePred Timed := fun r => inferInstanceAs (Decidable (_ ∧ _))
theorem s201_cmp {a b : Rt} (ha : Timed a) (hb : Timed b) : s201 a b = rCmp a b := by
  unfold s201 rCmp lexC
  by_cases h : wCmp a b = 0
  · rw [show (wCmp a b != 0) = false from by simp [h], if_pos h]
    exact sub_sign ha.1 ha.2 hb.1 hb.2
  · rw [show (wCmp a b != 0) = true from by simpa using h, if_neg h]
    rfl
/-! ### what is wrong with a rating -/
def rgFault (r : Rt) : Int :=
  bif !key (rFrom r) then 5 else bif !key (rTo r) then 5 else bif !key (rRide r) then 5 else bif sEq (rFrom r) (rTo r) then 6 else bif s114 (rStars r) 1 5 then 1 else bif !s121 (rAt r) then 1 else 0
structure Fine (r : Rt) : Prop where
  timed : Timed r
  stars : 1 ≤ rStars r ∧ rStars r ≤ 5
theorem fine_of {r : Rt} (h : rgFault r = 0) : Fine r := by
  unfold rgFault at h
  obtain ⟨h1, h⟩ := cond_zero h (by decide)
  obtain ⟨h2, h⟩ := cond_zero h (by decide)
  obtain ⟨h3, h⟩ := cond_zero h (by decide)
  obtain ⟨h4, h⟩ := cond_zero h (by decide)
  obtain ⟨h5, h⟩ := cond_zero h (by decide)
  obtain ⟨h6, h⟩ := cond_zero h (by decide)
  simp only [Bool.not_eq_false'] at h6
  unfold s121 at h6
  simp only [Bool.not_eq_true'] at h6
  have := outd_false h5
  have := outd_false h6
  exact ⟨⟨by omega, by omega⟩, by omega⟩
def rFaults (l : List Rt) : Int := if l.length > 3000 then 2 else chkP rgFault (fun o x => decide (rCmp x o ≤ 0)) none l
def s107 := rFaults
def s106 := rFaults
theorem faults_out (l : List Rt) (q : (Int × Unit) ⊕ (Unit × Unit)) (n : Int) (hq : q = bif n != 0 then .inl (n, ()) else .inr ((), ())) : (Option.bind (some q) fun r => match r with | .inl z => some z | .inr z2 => some ((0 : Int), ())) = some (n, ()) := by
  subst hq
  cases h : n != 0
  · have : n = 0 := by simpa using h
    subst this; rfl
  · rfl
theorem h107 (l : List Rt) (hw : WFs A107 (l, ())) : ∃ k, f107 s113 s114 s121 s193 k l = some (s107 l, ()) := by
  simp only [WFs, WF] at hw
  have hl : l.length ≤ 9223372036854775807 := hw.1.1
  clear hw
  refine ⟨l.length + 1, ?_⟩
  unfold f107 s107 rFaults
  rw [show (3000 : Int) = ((3000 : Nat) : Int) from rfl, len_gt]
  by_cases hn : l.length > 3000
  · simp [hn]
  · simp only [hn, decide_false, cond_false, if_false]
    rw [iter_chkP (xs := l) rgFault (fun o x => decide (rCmp x o ≤ 0)) ?a1 ?a2]
    case a2 => simp
    case a1 =>
      intro j x p hx hp
      simp only [lt_at hx, inR_at hx, rd_at hx, wrap_succ hx hl, cond_true, chkPB, ordP, rgFault, show s113 = key from rfl]
      cases key x.1
      · rfl
      cases key x.2.1
      · rfl
      cases key x.2.2.1
      · rfl
      cases sEq x.1 x.2.1
      rotate_left
      · rfl
      cases s114 x.2.2.2.1 1 5
      rotate_left
      · rfl
      cases s121 x.2.2.2.2.1
      · rfl
      simp only [Bool.not_true, cond_false, bne_self_eq_false]
      rcases hp with ⟨rfl, rfl⟩ | ⟨o, hj, ho, rfl⟩
      · rfl
      · have e0 : decide (((j : Nat) : Int) > 0) = true := by simp; omega
        simp only [e0, prev_ix hl hj ho, inR_at ho, rd_at ho, cond_true, s193]
        cases decide (rCmp x o ≤ 0) <;> rfl
    exact faults_out l _ _ rfl
theorem rord_same (o x : Rt) (ho : rgFault o = 0) (hx : rgFault x = 0) : decide (s201 o x ≥ 0) = decide (rCmp x o ≤ 0) := by
  rw [s201_cmp (fine_of ho).timed (fine_of hx).timed]
  congr 1
  apply propext
  exact (rCmp_ok.flip_le trivial trivial).symm
theorem h106 (l : List Rt) (hw : WFs A106 (l, ())) : ∃ k, f106 s31 s115 s125 s201 k l = some (s106 l, ()) := by
  simp only [WFs, WF] at hw
  have hl : l.length ≤ 9223372036854775807 := hw.1.1
  clear hw
  refine ⟨l.length + 1, ?_⟩
  unfold f106 s106 rFaults
  rw [show (3000 : Int) = ((3000 : Nat) : Int) from rfl, len_gt]
  by_cases hn : l.length > 3000
  · simp [hn]
  · simp only [hn, decide_false, cond_false, if_false]
    rw [iter_chkP (xs := l) rgFault (fun o x => decide (s201 o x ≥ 0)) ?a1 ?a2]
    case a2 => simp
    case a1 =>
      intro j x p hx hp
      simp only [lt_at hx, inR_at hx, rd_at hx, wrap_succ hx hl, cond_true, chkPB, ordP, rgFault, show s31 = key from rfl, in_out, show s125 = s121 from rfl]
      cases key x.1
      · rfl
      cases key x.2.1
      · rfl
      cases key x.2.2.1
      · rfl
      cases sEq x.1 x.2.1
      rotate_left
      · rfl
      cases s114 x.2.2.2.1 1 5
      rotate_left
      · rfl
      cases s121 x.2.2.2.2.1
      · rfl
      simp only [Bool.not_true, Bool.not_false, cond_false, bne_self_eq_false]
      rcases hp with ⟨rfl, rfl⟩ | ⟨o, hj, ho, rfl⟩
      · rfl
      · have e0 : decide (((j : Nat) : Int) > 0) = true := by simp; omega
        simp only [e0, prev_ix hl hj ho, inR_at ho, rd_at ho, cond_true]
        cases decide (s201 o x ≥ 0) <;> rfl
    rw [chkP_congr (o1 := fun o x => decide (s201 o x ≥ 0)) (o2 := fun o x => decide (rCmp x o ≤ 0)) rord_same l none (fun o e => by cases e)]
    exact faults_out l _ _ rfl
/-! ### faiths -/
abbrev Fa : Type := Int × Int × Int × Unit
def fFault (f : Fa) : Int := bif s114 f.1 0 1000 then 1 else bif s114 f.2.1 1000 5000 then 1 else bif s114 f.2.2.1 0 345686400000 then 1 else 0
def s195 := fFault
def s108 := fFault
theorem h195 (f : Fa) (hw : WFs A195 (f, ())) : ∃ k, f195 s114 k f = some (s195 f, ()) := ⟨0, by
  unfold f195 s195 fFault
  simp only [cond_one]⟩
theorem h108 (f : Fa) (hw : WFs A108 (f, ())) : ∃ k, f108 s115 k f = some (s108 f, ()) := ⟨0, by
  unfold f108 s108 fFault
  simp only [in_out, Bool.not_not, cond_one]⟩
/-! ### people -/
def hasS (l : List ByteArray) (x : ByteArray) : Bool := l.any (sEq x ·)
theorem hasS_iff {l : List ByteArray} {x : ByteArray} : hasS l x = true ↔ x ∈ l := by
  unfold hasS
  rw [List.any_eq_true]
  constructor
  · rintro ⟨y, hy, h⟩
    rw [sEq_iff.1 h]; exact hy
  · exact fun h => ⟨x, h, sEq_self x⟩
def whoF : List ByteArray → List ByteArray → Int
  | _, [] => 0
  | seen, x :: l => bif !key x then 5 else bif hasS seen x then 6 else whoF (seen ++ [x]) l
def wFault (l : List ByteArray) (most : Int) : Int := if (l.length : Int) > most then 2 else whoF [] l
def s124 := wFault
def s33 := wFault
def s213 (l : List ByteArray) (x : ByteArray) : Int := match l.findIdx? (fun y => sEq x y) with | some i => (i : Int) | none => -1
theorem h213 (l : List ByteArray) (x : ByteArray) (hw : WFs A213 (l, x, ())) : ∃ k, f213 k l x = some (s213 l x, ()) := by
  simp only [WFs, WF] at hw
  have hl : l.length ≤ 9223372036854775807 := hw.1.1
  clear hw
  refine ⟨l.length + 1, ?_⟩
  unfold f213 s213
  rw [iter_find (s0 := (((0 : Int), ()), ())) l (fun i => (((i : Int), ()), ())) (fun y => sEq x y) (fun i => .inl ((i : Int), ())) (.inr ((), ())) rfl (Nat.lt_succ_self _) ?a3 ?a4]
  case a4 => simp
  case a3 =>
    intro j y hy
    simp only [lt_at hy, inR_at hy, rd_at hy, wrap_succ hy hl, cond_true]
    cases sEq x y <;> rfl
  cases l.findIdx? (fun y => sEq x y) <;> rfl
def s131 (l : List ByteArray) (x : ByteArray) : Bool := hasS l x
theorem h131 (l : List ByteArray) (x : ByteArray) (hw : WFs A131 (l, x, ())) : ∃ k, f131 s213 k l x = some (s131 l x, ()) := ⟨0, by
  unfold f131 s213 s131
  cases h : l.findIdx? (fun y => sEq x y) with
  | none =>
    rw [decide_eq_false (by decide), show hasS l x = false from by
      rw [← Bool.not_eq_true, hasS_iff]
      intro hm
      have := List.findIdx?_eq_none_iff.1 h x hm
      rw [sEq_self] at this; cases this]
  | some i =>
    rw [decide_eq_true (by simp), show hasS l x = true from by
      rw [hasS_iff]
      obtain ⟨hi, h1, _⟩ := List.findIdx?_eq_some_iff_getElem.1 h
      rw [sEq_iff.1 h1]
      exact List.getElem_mem hi]⟩
def whoB (xs : List ByteArray) (j : Nat) (x : ByteArray) (_ : Unit) : Unit ⊕ ((Int × Unit) ⊕ (Unit × Unit)) := bif !key x then .inr (.inl (5, ())) else bif hasS (xs.take j) x then .inr (.inl (6, ())) else .inl ()
theorem who_scan (xs : List ByteArray) : ∀ (l : List ByteArray) (j : Nat), xs.drop j = l →
    (Option.bind (some (scan (whoB xs) (fun _ => .inr ((), ())) l j ())) fun r : (Int × Unit) ⊕ (Unit × Unit) => match r with | .inl z => some z | .inr z2 => some ((0 : Int), ())) = some (whoF (xs.take j) l, ())
  | [], j, hl => rfl
  | x :: l, j, hl => by
    have hx : xs[j]? = some x := by
      have := congrArg (·[0]?) hl
      simpa using this
    have hl' : xs.drop (j + 1) = l := by
      have := congrArg List.tail hl
      simpa using this
    simp only [scan, whoF, whoB]
    cases key x
    · rfl
    · simp only [Bool.not_true, cond_false]
      cases hasS (xs.take j) x
      · simp only [cond_false]
        have := who_scan xs l (j + 1) hl'
        rw [List.take_add_one, hx] at this
        exact this
      · rfl
theorem h33 (l : List ByteArray) (most : Int) (hw : WFs A33 (l, most, ())) : ∃ k, f33 s31 s131 k l most = some (s33 l most, ()) := by
  simp only [WFs, WF] at hw
  have hl : l.length ≤ 9223372036854775807 := hw.1.1
  clear hw
  refine ⟨l.length + 1, ?_⟩
  unfold f33 s33 wFault
  by_cases hn : (l.length : Int) > most
  · simp [hn]
  · simp only [hn, decide_false, cond_false, if_false]
    rw [iter_scan0 (s0 := (((0 : Int), ()), ())) l (fun j _ => (((j : Int), ()), ())) (whoB l) (fun _ => .inr ((), ())) () rfl (Nat.lt_succ_self _) ?a1 ?a2]
    case a2 => simp
    case a1 =>
      intro j x u hx
      have hj := (List.getElem?_eq_some_iff.1 hx).1
      have e0 : (decide ((0 : Int) ≤ 0) && (decide ((0 : Int) ≤ (j : Int)) && decide ((j : Int) ≤ (l.length : Int)))) = true := by simp; omega
      simp only [lt_at hx, inR_at hx, rd_at hx, wrap_succ hx hl, cond_true, e0, Int.toNat_natCast, show Int.toNat 0 = 0 from rfl, List.drop_zero, whoB, show s31 = key from rfl, s131]
      cases key x
      · rfl
      · simp only [Bool.not_true, cond_false]
        cases hasS (l.take j) x <;> rfl
    exact who_scan l l 0 rfl
abbrev Wm : Type := MapC .str .bool
def strHas (x : ByteArray) (c : Wm) : Bool := mget (keq .str) false x c.1
def strPut (x : ByteArray) (c : Wm) : Wm := mput (keq .str) x true c
def whoM (x : ByteArray) (c : Wm) : Wm ⊕ ((Int × Unit) ⊕ (Unit × (Wm × Unit))) := bif !key x then .inr (.inl (5, ())) else bif strHas x c then .inr (.inl (6, ())) else .inl (strPut x c)
theorem whoM_scan : ∀ (l : List ByteArray) (j : Nat) (c : Wm) (seen : List ByteArray), (∀ x, strHas x c = hasS seen x) →
    (Option.bind (some (scan (fun _ => whoM) (fun c => .inr ((), (c, ()))) l j c)) fun r : (Int × Unit) ⊕ (Unit × (Wm × Unit)) => match r with | .inl z => some z | .inr z2 => some ((0 : Int), ())) = some (whoF seen l, ())
  | [], j, c, seen, _ => rfl
  | x :: l, j, c, seen, hc => by
    simp only [scan, whoF, whoM]
    cases key x
    · rfl
    · simp only [Bool.not_true, cond_false, hc]
      cases hd : hasS seen x
      · simp only [hc, hd, cond_false]
        refine whoM_scan l (j + 1) _ (seen ++ [x]) (fun y => ?_)
        have e : strHas y (strPut x c) = cond (sEq y x) true (strHas y c) := mget_mput (eq := keq .str) (fun a b => sEq_iff) false x true c y
        rw [e, hc]
        have e2 : hasS (seen ++ [x]) y = (hasS seen y || sEq y x) := by simp [hasS]
        rw [e2]
        cases sEq y x <;> cases hasS seen y <;> rfl
      · rfl
theorem h124 (l : List ByteArray) (most : Int) (hw : WFs A124 (l, most, ())) : ∃ k, f124 s113 k l most = some (s124 l most, ()) := by
  simp only [WFs, WF] at hw
  have hl : l.length ≤ 9223372036854775807 := hw.1.1
  clear hw
  refine ⟨l.length + 1, ?_⟩
  unfold f124 s124 wFault
  by_cases hn : (l.length : Int) > most
  · simp [hn]
  · simp only [hn, decide_false, cond_false, if_false]
    rw [iter_scan0 (s0 := (((0 : Int), ()), ((([], 0) : Wm), ()))) (β := Wm) l (fun j c => (((j : Int), ()), (c, ()))) (fun _ => whoM) (fun c => .inr ((), (c, ()))) ([], 0) rfl (Nat.lt_succ_self _) ?a1 ?a2]
    case a2 => intro c; simp
    case a1 =>
      intro j x c hx
      simp only [lt_at hx, inR_at hx, rd_at hx, wrap_succ hx hl, cond_true, whoM, show s113 = key from rfl]
      cases key x
      · rfl
      · simp only [Bool.not_true, cond_false]
        show (bif strHas x c then _ else some (Sum.inl (_, (strPut x c, ())))) = _
        cases strHas x c <;> rfl
    exact whoM_scan l 0 ([], 0) [] (fun x => rfl)
end Go.Vm

/- RatingsScored: ratings of two lists. Own work. -/
set_option linter.unusedVariables false
set_option linter.unusedSimpArgs false
namespace Go.Vm
open Go.RowKit Go.Vm.Gain
/-! ### slices.Concat -/
def s191 (ls : List (List Rt)) : Option (List Rt) := if ls.flatten.length ≤ 4294967296 then some ls.flatten else none
theorem h191 (ls : List (List Rt)) (ys : List Rt) (hw : WFs A191 (ls, ())) (hy : s191 ls = some ys) : ∃ k, f191 k ls = some ys := by
  unfold s191 at hy
  split at hy
  rotate_left
  · cases hy
  rename_i hn
  cases hy
  simp only [WFs, WF] at hw
  have hl : ls.length ≤ 9223372036854775807 := hw.1.1
  clear hw
  refine ⟨ls.length + 1, ?_⟩
  unfold f191
  rw [iter_scan0 (s0 := (((0 : Int), (0 : Int), ()), ())) (β := Unit) ls (fun j _ => (((((ls.take j).flatten.length : Nat) : Int), (j : Int), ()), ())) (fun _ _ _ => .inl ()) (fun _ => .inr ((((ls.flatten.length : Nat) : Int), ()), ())) () rfl (Nat.lt_succ_self _) ?a1 ?a2]
  case a2 => intro b; simp
  case a1 =>
    intro j x b hx
    have h1 := flat_le ls (j + 1)
    rw [take_flat ls j hx, List.length_append] at h1
    have e : IntKind.i64.wrap ((((ls.take j).flatten.length : Nat) : Int) + (x.length : Int)) = (((ls.take (j + 1)).flatten.length : Nat) : Int) := by
      rw [take_flat ls j hx, List.length_append, wrap_ok (by omega) (by omega)]; omega
    simp only [lt_at hx, inR_at hx, rd_at hx, wrap_succ hx hl, cond_true, e]
    rw [show decide ((((ls.take (j + 1)).flatten.length : Nat) : Int) < 0) = false from by simp]
    rfl
  rw [scan_fold0 (fun (_ : List Rt) (_ : Unit) => ())]
  have eN : IntKind.i64.wrap (((ls.flatten.length : Nat) : Int) - 0) = ((ls.flatten.length : Nat) : Int) := by rw [wrap_ok (by omega) (by omega)]; omega
  have e0 : decide (((ls.flatten.length : Nat) : Int) < 0) = false := by simp
  have hloop : ∀ g : List Rt, g = [] → iter (ls.length + 1) (fun y4 : (List Rt × Int × Unit) × Unit =>
      bif decide (y4.1.2.1 < (ls.length : Int)) then
        bif inR y4.1.2.1 (ls.length : Int) then
          bif decide (y4.1.1.length + (rd (α := List Rt) [] ls y4.1.2.1).length ≤ 4294967296) then
            some (.inl ((y4.1.1 ++ rd (α := List Rt) [] ls y4.1.2.1, IntKind.i64.wrap (y4.1.2.1 + 1), ()), ()))
          else none
        else none
      else some (.inr ((.inr ((y4.1.1, ()), ())) : (List Rt) ⊕ ((List Rt × Unit) × Unit)))) ((g, (0 : Int), ()), ()) = some (.inr ((ls.flatten, ()), ())) := by
    intro g hg
    subst hg
    rw [iter_scan0 (s0 := (([], (0 : Int), ()), ())) (β := Unit) ls (fun j _ => (((ls.take j).flatten, (j : Int), ()), ())) (fun _ _ _ => .inl ()) (fun _ => .inr ((ls.flatten, ()), ())) () rfl (Nat.lt_succ_self _) ?a1 ?a2]
    case a2 => intro b; simp
    case a1 =>
      intro j x b hx
      have h1 := flat_le ls (j + 1)
      have h2 := take_flat ls j hx
      have h3 := congrArg List.length h2
      rw [List.length_append] at h3
      simp only [lt_at hx, inR_at hx, rd_at hx, wrap_succ hx hl, cond_true]
      rw [show decide ((ls.take j).flatten.length + x.length ≤ 4294967296) = true from decide_eq_true (by omega), h2]
      rfl
    rw [scan_fold0 (fun (_ : List Rt) (_ : Unit) => ())]
  simp only [Option.bind_some, eN, e0, cond_false]
  cases hp : decide (((ls.flatten.length : Nat) : Int) > 0)
  · simp only [cond_false, Option.bind_some]
    refine (congrArg (fun q => Option.bind q (fun r : (List Rt) ⊕ ((List Rt × Unit) × Unit) => match r with | .inl z => some z | .inr z5 => some z5.1.1)) (hloop [] rfl)).trans rfl
  · have e1 : (decide (0 ≤ ((ls.flatten.length : Nat) : Int)) && decide (((ls.flatten.length : Nat) : Int) ≤ 4294967296)) = true := by rw [Bool.and_eq_true, decide_eq_true_iff, decide_eq_true_iff]; omega
    have e2 : ∀ n : Nat, (decide ((0 : Int) ≤ 0) && (decide ((0 : Int) ≤ 0) && decide ((0 : Int) ≤ (n : Int)))) = true := fun n => by simp
    simp only [cond_true, e1, e2, Option.bind_some]
    refine (congrArg (fun q => Option.bind q (fun r : (List Rt) ⊕ ((List Rt × Unit) × Unit) => match r with | .inl z => some z | .inr z5 => some z5.1.1)) (hloop _ (by simp))).trans rfl
/-! ### slices.Compact -/
def rtEq (a b : Rt) : Bool := keq T192 a b
theorem rtEq_iff (a b : Rt) : rtEq a b = true ↔ a = b := keq_iff (K := T192) rfl a b
def s194 (l : List Rt) : Option (List Rt) := some (dedup rtEq l)
theorem f194_eq (k : Nat) (xs : List Rt) : f194 k xs = compactF zRT5 rtEq (fun a b => !rtEq a b) k xs := by kernel_rfl
theorem h194 (xs ys : List Rt) (hl : xs.length ≤ 9223372036854775807) (hw : WFs .nil ()) (hy : s194 xs = some ys) : ∃ k, f194 k xs = some ys := by
  unfold s194 at hy
  refine ⟨xs.length + 1, ?_⟩
  rw [← hy, f194_eq]
  exact compactF_ok (d := zRT5) (eq := rtEq) (ne := fun a b => !rtEq a b) (fun a b => rfl) xs hl
/-! ### the stable sorts -/
theorem W_of {α : Type} {cmp : α → α → Int} (h : CmpOK cmp (fun _ => True)) : Weak (ltOf cmp) := by
  refine ⟨fun x => ?_, fun x y z h1 h2 => ?_, fun x y z h1 h2 => ?_⟩
  · simp only [ltOf, decide_eq_false_iff_not]
    have := h.self (a := x) trivial
    omega
  · simp only [ltOf, decide_eq_true_eq] at *
    exact h.lt_le (a := x) (b := y) (c := z) trivial trivial trivial h1 (by omega)
  · simp only [ltOf, decide_eq_false_iff_not] at *
    have g1 := (h.flip_le (a := y) (b := x) trivial trivial).2 (by omega)
    have g2 := (h.flip_le (a := z) (b := y) trivial trivial).2 (by omega)
    have := h.trans _ _ _ (trivial : True) (trivial : True) (trivial : True) g2 g1
    have := (h.flip_le (a := z) (b := x) trivial trivial).1 this
    omega
theorem W193 : Weak (ltOf s193) := W_of rCmp_ok
theorem WR : Weak (ltOf rCmp) := W_of rCmp_ok
def s192_193 (xs : List Rt) : Option (List Rt) := if xs.length ≤ 4294967296 then some (stab (ltOf s193) xs) else none
def s192_201 (xs : List Rt) : Option (List Rt) := if xs.length ≤ 4294967296 ∧ ∀ x ∈ xs, Timed x then some (stab (ltOf rCmp) xs) else none
theorem timed0 : Timed (Ty.dflt T192) := ⟨Int.le_refl 0, (by decide : (0 : Int) < 345686400000)⟩
instance : DecidablePred (α := T192.den) Timed := fun r => (inferInstance : DecidablePred Timed) r
/-! ### ratings of both -/
def adjB (v : List Rt) (j : Nat) (x : Rt) (_ : Unit) : Unit ⊕ ((List Rt × Int × Unit) ⊕ (Unit × Unit)) :=
  match v[j - 1]? with
  | some o => bif rCmp o x == 0 then .inr (.inl ([], 13, ())) else .inl ()
  | none => .inl ()
def merged (v : List Rt) : List Rt × Int × Unit :=
  match scan (adjB v) (fun _ => .inr ((), ())) (v.drop 1) 1 () with
  | .inl z => z
  | .inr _ => bif decide (v.length > 3000) then ([], 2, ()) else (v, 0, ())
def s102 (a b : List Rt) : Option (List Rt × Int × Unit) :=
  if nz [rFaults a, rFaults b] = 0 then some (merged (dedup rtEq (stab (ltOf rCmp) (a ++ b)))) else some ([], nz [rFaults a, rFaults b], ())
theorem faults_len {l : List Rt} (h : rFaults l = 0) : l.length ≤ 3000 := by
  unfold rFaults at h
  split at h
  · cases h
  · omega
theorem faults_each {l : List Rt} (h : rFaults l = 0) : ∀ r ∈ l, rgFault r = 0 := by
  unfold rFaults at h
  split at h
  · cases h
  · exact chkP_all l none h
theorem stab_len {α : Type} {lt : α → α → Bool} (W : Weak lt) (l : List α) : (stab lt l).length = l.length := (stab_same W l).1.symm
theorem adj_iter {v : List Rt} (hl : v.length ≤ 9223372036854775807) {f : (Int × Unit) × Unit → Option (((Int × Unit) × Unit) ⊕ ((List Rt × Int × Unit) ⊕ (Unit × Unit)))}
    (h1 : ∀ (j : Nat) (o x : Rt), 0 < j → v[j - 1]? = some o → v[j]? = some x → f (((j : Int), ()), ()) = some (bif rCmp o x == 0 then .inr (.inl ([], 13, ())) else .inl ((((j + 1 : Nat) : Int), ()), ())))
    (h2 : ∀ n : Nat, v.length ≤ n → f (((n : Int), ()), ()) = some (.inr (.inr ((), ())))) {k : Nat} (hk : v.length < k) :
    iter k f (((1 : Int), ()), ()) = some (scan (adjB v) (fun _ => .inr ((), ())) (v.drop 1) 1 ()) := by
  cases v with
  | nil =>
    cases k with
    | zero => omega
    | succ k =>
      simp only [iter]
      have := h2 1 (by simp)
      simp only [Int.natCast_one] at this
      rw [this]
      rfl
  | cons y l =>
    exact iter_scanJ (f := f) (y :: l) (fun j _ => (((j : Int), ()), ())) (adjB (y :: l)) (fun _ => .inr ((), ())) (fun j _ => 0 < j) (fun j x b b' _ _ _ => Nat.succ_pos j)
      (fun j x b hx hj => by
        have hlt := (List.getElem?_eq_some_iff.1 hx).1
        have ho : (y :: l)[j - 1]? = some (y :: l)[j - 1] := List.getElem?_eq_getElem (by omega)
        rw [h1 j _ x hj ho hx]
        simp only [adjB, ho]
        cases rCmp (y :: l)[j - 1] x == 0 <;> rfl)
      (fun b _ => h2 _ (Nat.le_refl _)) l 1 k () (by omega) rfl (by simp) (by simp at hk; omega)
theorem merged_out (v : List Rt) : (Option.bind (some (scan (adjB v) (fun _ => .inr ((), ())) (v.drop 1) 1 ())) fun r : (List Rt × Int × Unit) ⊕ (Unit × Unit) => match r with
    | .inl z => some z
    | .inr z5 => bif (decide (((List.length v : Nat) : Int) > (3000 : Int))) then some (([] : List Rt), (2 : Int), ()) else some (v, (0 : Int), ())) = some (merged v) := by
  unfold merged
  rw [show (3000 : Int) = ((3000 : Nat) : Int) from rfl, len_gt]
  cases scan (adjB v) (fun _ => .inr ((), ())) (v.drop 1) 1 () with
  | inl z => rfl
  | inr z => simp only [Option.bind_some]; cases decide (v.length > 3000) <;> rfl
theorem h102 (a b : List Rt) (y : List Rt × Int × Unit) (hw : WFs A102 (a, b, ())) (h : s102 a b = some y) : ∃ k, f102 s107 s123 s191 s192_193 s193 s194 k a b = some y := by
  clear hw
  unfold s102 at h
  by_cases hz : nz [rFaults a, rFaults b] = 0
  · rw [if_pos hz] at h
    cases h
    obtain ⟨z1, z2⟩ := nz2 hz
    have hla := faults_len z1
    have hlb := faults_len z2
    have hab : (a ++ b).length ≤ 6000 := by rw [List.length_append]; omega
    have e1 : s191 [a, b] = some (a ++ b) := by
      unfold s191
      rw [show [a, b].flatten = a ++ b from by simp, if_pos (by omega)]
    have e2 : s192_193 (a ++ b) = some (stab (ltOf rCmp) (a ++ b)) := by
      unfold s192_193
      exact if_pos (by omega)
    have hvl : (dedup rtEq (stab (ltOf rCmp) (a ++ b))).length ≤ 6000 := Nat.le_trans (dedup_len _ _) (by rw [stab_len WR]; exact hab)
    refine ⟨(dedup rtEq (stab (ltOf rCmp) (a ++ b))).length + 1, ?_⟩
    unfold f102
    simp only [show s123 = nz from rfl, show s107 = rFaults from rfl, hz, bne_self_eq_false, cond_false, e1, e2, s194, Option.bind_some]
    generalize dedup rtEq (stab (ltOf rCmp) (a ++ b)) = v at *
    have hl : v.length ≤ 9223372036854775807 := by omega
    rw [adj_iter hl (k := v.length + 1) ?h1 ?h2 (by omega)]
    · exact merged_out v
    case h2 =>
      intro n hn
      simp only
      rw [decide_eq_false (by omega)]
      rfl
    case h1 =>
      intro j o x hj ho hx
      simp only [lt_at hx, inR_at hx, rd_at hx, wrap_succ hx hl, prev_ix hl hj ho, inR_at ho, rd_at ho, cond_true, s193]
      cases rCmp o x == 0 <;> rfl
  · rw [if_neg hz] at h
    cases h
    refine ⟨0, ?_⟩
    unfold f102
    rw [show (s123 [s107 a, s107 b] != 0) = true from bne_iff_ne.2 hz]
    rfl
def s109 (a b : List Rt) : Option (List Rt × Int × Unit) :=
  if (a ++ b).length ≤ 6000 ∧ ∀ x ∈ a ++ b, Timed x then some (merged (dedup rtEq (stab (ltOf rCmp) (a ++ b)))) else none
theorem dedupFrom_mem {α : Type} (eq : α → α → Bool) : ∀ (l : List α) (p x : α), x ∈ dedupFrom eq p l → x ∈ l
  | [], p, x, h => h
  | y :: l, p, x, h => by
    simp only [dedupFrom] at h
    cases hq : eq y p <;> rw [hq] at h
    · simp only [cond_false, List.mem_cons] at h ⊢
      exact h.imp id (dedupFrom_mem eq l _ x)
    · exact List.mem_cons_of_mem _ (dedupFrom_mem eq l _ x h)
theorem dedup_mem {α : Type} (eq : α → α → Bool) {l : List α} {x : α} (h : x ∈ dedup eq l) : x ∈ l := by
  cases l with
  | nil => exact h
  | cons y l =>
    simp only [dedup, List.mem_cons] at h ⊢
    exact h.imp id (dedupFrom_mem eq l _ x)
theorem h109 (a b : List Rt) (y : List Rt × Int × Unit) (hw : WFs A109 (a, b, ())) (h : s109 a b = some y) : ∃ k, f109 s191 s192_201 s194 s201 k a b = some y := by
  clear hw
  unfold s109 at h
  split at h
  rotate_left
  · cases h
  rename_i hc
  cases h
  obtain ⟨hab, ht⟩ := hc
  have e1 : s191 [a, b] = some (a ++ b) := by
    unfold s191
    rw [show [a, b].flatten = a ++ b from by simp, if_pos (by omega)]
  have e2 : s192_201 (a ++ b) = some (stab (ltOf rCmp) (a ++ b)) := by
    unfold s192_201
    exact if_pos ⟨by omega, ht⟩
  have hvl : (dedup rtEq (stab (ltOf rCmp) (a ++ b))).length ≤ 6000 := Nat.le_trans (dedup_len _ _) (by rw [stab_len WR]; exact hab)
  have hvt : ∀ x ∈ dedup rtEq (stab (ltOf rCmp) (a ++ b)), Timed x := fun x hx => ht x ((stab_same WR (a ++ b)).mem WR (dedup_mem rtEq hx))
  refine ⟨(dedup rtEq (stab (ltOf rCmp) (a ++ b))).length + 2, ?_⟩
  unfold f109
  simp only [e1, e2, s194, Option.bind_some]
  generalize dedup rtEq (stab (ltOf rCmp) (a ++ b)) = v at *
  have hl : v.length ≤ 9223372036854775807 := by omega
  have key : ∀ f : (Int × Unit) × Unit → Option (((Int × Unit) × Unit) ⊕ ((List Rt × Int × Unit) ⊕ (Unit × Unit))), f = (fun y4 : (Int × Unit) × Unit =>
      bif decide (y4.1.1 < ((List.length v : Nat) : Int)) then
        bif decide (y4.1.1 > (0 : Int)) then
          bif inR (IntKind.i64.wrap (y4.1.1 - (1 : Int))) ((List.length v : Nat) : Int) then
            bif inR (IntKind.i64.wrap (y4.1.1 - (1 : Int))) ((List.length v : Nat) : Int) then
              bif inR y4.1.1 ((List.length v : Nat) : Int) then
                bif inR y4.1.1 ((List.length v : Nat) : Int) then
                  bif (s201 (rd (α := Rt) zRT5 v (IntKind.i64.wrap (y4.1.1 - (1 : Int)))) (rd (α := Rt) zRT5 v y4.1.1)) == (0 : Int) then some (.inr (.inl ([], (13 : Int), ())))
                  else some (.inl ((IntKind.i64.wrap (y4.1.1 + (1 : Int)), ()), ()))
                else none
              else none
            else none
          else none
        else some (.inl ((IntKind.i64.wrap (y4.1.1 + (1 : Int)), ()), ()))
      else some (.inr (.inr ((), ())))) → iter (v.length + 2) f (((0 : Int), ()), ()) = some (scan (adjB v) (fun _ => .inr ((), ())) (v.drop 1) 1 ()) := by
    intro f hf
    have g1 : ∀ (j : Nat) (o x : Rt), 0 < j → v[j - 1]? = some o → v[j]? = some x → f (((j : Int), ()), ()) = some (bif rCmp o x == 0 then .inr (.inl ([], 13, ())) else .inl ((((j + 1 : Nat) : Int), ()), ())) := by
      intro j o x hj ho hx
      subst hf
      have e0 : decide ((j : Int) > 0) = true := by simp; omega
      simp only [lt_at hx, inR_at hx, rd_at hx, wrap_succ hx hl, prev_ix hl hj ho, inR_at ho, rd_at ho, cond_true, e0, s201_cmp (hvt o (List.mem_of_getElem? ho)) (hvt x (List.mem_of_getElem? hx))]
      cases rCmp o x == 0 <;> rfl
    have g2 : ∀ n : Nat, v.length ≤ n → f (((n : Int), ()), ()) = some (.inr (.inr ((), ()))) := by
      intro n hn
      subst hf
      simp only
      rw [decide_eq_false (by omega)]
      rfl
    cases hv : v with
    | nil =>
      have := g2 0 (by rw [hv]; simp)
      simp only [Int.natCast_zero] at this
      simp only [iter, List.length_nil, this, Option.bind_some]
      rfl
    | cons x l =>
      have e3 : f (((0 : Int), ()), ()) = some (.inl (((1 : Int), ()), ())) := by
        subst hf
        simp only
        rw [decide_eq_true (by rw [hv]; simp), decide_eq_false (by omega), wrap_ok (by omega) (by omega)]
        rfl
      rw [show (x :: l).length + 2 = ((x :: l).length + 1) + 1 from rfl]
      show (f (((0 : Int), ()), ())).bind _ = _
      rw [e3, Option.bind_some]
      rw [← hv]
      exact adj_iter hl g1 g2 (by omega)
  refine (congrArg (fun q => Option.bind q _) (key _ rfl)).trans ?_
  exact merged_out v
/-! ### equal lists -/
open Classical in
noncomputable def s101 (a b : List ByteArray) : Bool := decide (a = b)
theorem h101 (a b : List ByteArray) (hw : WFs A101 (a, b, ())) : ∃ k, f101 k a b = some (s101 a b, ()) := by
  simp only [WFs, WF] at hw
  have hl : a.length ≤ 9223372036854775807 := hw.1.1
  clear hw
  refine ⟨a.length + 1, ?_⟩
  unfold f101 s101
  by_cases hlen : a.length = b.length
  · have e : ((a.length : Int) != (b.length : Int)) = false := by simp [hlen]
    simp only [e, cond_false]
    have hzl : (List.zip a b).length = a.length := by rw [List.length_zip]; omega
    rw [iter_find (s0 := (((0 : Int), ()), ())) (List.zip a b) (fun i => (((i : Int), ()), ())) (fun q => !sEq q.1 q.2) (fun i => .inl (false, ())) (.inr ((), ())) ?a1 ?a2 ?a3 ?a4]
    case a1 => rfl
    case a2 => omega
    case a3 =>
      intro j q hq
      obtain ⟨x, y⟩ := q
      obtain ⟨hx, hy⟩ := List.getElem?_zip_eq_some.1 hq
      simp only [lt_at hx, inR_at hx, inR_at hy, rd_at hx, rd_at hy, wrap_succ hx hl, cond_true]
      cases sEq x y <;> rfl
    case a4 => rw [hzl]; simp
    have := zip_none (ne := fun x y : ByteArray => !sEq x y) (fun x y => by rw [Bool.not_eq_false', sEq_iff]) hlen
    cases hf : (List.zip a b).findIdx? (fun q => !sEq q.1 q.2) with
    | none => simp [this.1 hf]
    | some i =>
      have : ¬ a = b := fun e => by rw [this.2 e] at hf; cases hf
      simp [this]
  · have e : ((a.length : Int) != (b.length : Int)) = true := by simp; omega
    have : ¬ a = b := fun e => hlen (by rw [e])
    simp [e, this]
theorem rt_chain (a b : Rt) : ((sEq a.1 b.1) && ((sEq a.2.1 b.2.1) && ((sEq a.2.2.1 b.2.2.1) && ((a.2.2.2.1 == b.2.2.2.1) && ((a.2.2.2.2.1 == b.2.2.2.2.1) && true))))) = rtEq a b := rfl
open Classical in
noncomputable def s112 (a b : List Rt) : Bool := decide (a = b)
theorem h112 (a b : List Rt) (hw : WFs A112 (a, b, ())) : ∃ k, f112 k a b = some (s112 a b, ()) := by
  simp only [WFs, WF] at hw
  have hl : a.length ≤ 9223372036854775807 := hw.1.1
  clear hw
  refine ⟨a.length + 1, ?_⟩
  unfold f112 s112
  by_cases hlen : a.length = b.length
  · have e : ((a.length : Int) != (b.length : Int)) = false := by simp [hlen]
    simp only [e, cond_false]
    have hzl : (List.zip a b).length = a.length := by rw [List.length_zip]; omega
    rw [iter_find (s0 := (((0 : Int), ()), ())) (List.zip a b) (fun i => (((i : Int), ()), ())) (fun q => !rtEq q.1 q.2) (fun i => .inl (false, ())) (.inr ((), ())) ?a1 ?a2 ?a3 ?a4]
    case a1 => rfl
    case a2 => omega
    case a3 =>
      intro j q hq
      obtain ⟨x, y⟩ := q
      obtain ⟨hx, hy⟩ := List.getElem?_zip_eq_some.1 hq
      simp only [lt_at hx, inR_at hx, inR_at hy, rd_at hx, rd_at hy, wrap_succ hx hl, cond_true, rt_chain]
      cases rtEq x y <;> rfl
    case a4 => rw [hzl]; simp
    have := zip_none (ne := fun x y : Rt => !rtEq x y) (fun x y => by rw [Bool.not_eq_false', rtEq_iff]) hlen
    cases hf : (List.zip a b).findIdx? (fun q => !rtEq q.1 q.2) with
    | none => simp [this.1 hf]
    | some i =>
      have : ¬ a = b := fun e => by rw [this.2 e] at hf; cases hf
      simp [this]
  · have e : ((a.length : Int) != (b.length : Int)) = true := by simp; omega
    have : ¬ a = b := fun e => hlen (by rw [e])
    simp [e, this]
end Go.Vm

/- RatingsScored: fractions. Own work. -/
set_option linter.unusedVariables false
set_option linter.unusedSimpArgs false
namespace Go.Vm
open Go.RowKit Go.Vm.Gain
abbrev Fr : Type := Int × Int × Unit
/-! ### the greatest common divisor -/
theorem gcd_iter {τ : Type} {f : (Int × Int × Unit) × Unit → Option (((Int × Int × Unit) × Unit) ⊕ (τ ⊕ ((Int × Unit) × Unit)))}
    (h1 : ∀ a b : Nat, b ≠ 0 → f (((a : Int), (b : Int), ()), ()) = some (.inl (((b : Int), ((a % b : Nat) : Int), ()), ())))
    (h2 : ∀ a : Nat, f (((a : Int), (0 : Int), ()), ()) = some (.inr (.inr (((a : Int), ()), ())))) : ∀ (k a b : Nat), b < k → iter k f (((a : Int), (b : Int), ()), ()) = some (.inr ((((Nat.gcd a b : Nat) : Int), ()), ()))
  | 0, a, b, h => by omega
  | k + 1, a, b, h => by
    simp only [iter]
    by_cases hb : b = 0
    · subst hb
      rw [show ((0 : Nat) : Int) = 0 from rfl, h2, Nat.gcd_zero_right]
      rfl
    · rw [h1 a b hb, Option.bind_some]
      have hlt := Nat.mod_lt a (Nat.pos_of_ne_zero hb)
      rw [show Nat.gcd a b = Nat.gcd b (a % b) from by rw [Nat.gcd_comm a b, Nat.gcd_rec, Nat.gcd_comm]]
      exact gcd_iter h1 h2 k b (a % b) (by omega)
def s305 (x y : Int) : Option (Int × Unit) := if 0 ≤ x ∧ 0 ≤ y then some (((Nat.gcd x.toNat y.toNat : Nat) : Int), ()) else none
theorem h305 (x y : Int) (z : Int × Unit) (hw : WFs A305 (x, y, ())) (h : s305 x y = some z) : ∃ k, f305 k x y = some z := by
  clear hw
  unfold s305 at h
  split at h
  rotate_left
  · cases h
  rename_i hc
  cases h
  obtain ⟨a, rfl⟩ := Int.eq_ofNat_of_zero_le hc.1
  obtain ⟨b, rfl⟩ := Int.eq_ofNat_of_zero_le hc.2
  refine ⟨b + 1, ?_⟩
  unfold f305
  rw [gcd_iter ?h1 ?h2 (b + 1) a b (Nat.lt_succ_self b)]
  · rfl
  case h1 =>
    intro a b hb
    have e1 : (((b : Int)) != (0 : Int)) = true := by simp; omega
    have e2 : decide ((b : Int) = 0) = false := by simp; omega
    simp only [e1, e2, cond_true, cond_false]
    rfl
  case h2 => intro a; rfl
/-- a fraction in lowest terms -/
def frac (x y : Int) : Fr := (((x.toNat / Nat.gcd x.toNat y.toNat : Nat) : Int), ((y.toNat / Nat.gcd x.toNat y.toNat : Nat) : Int), ())
def Apt (x y : Int) : Prop := 0 ≤ x ∧ 0 < y ∧ x ≤ 9223372036854775807 ∧ y ≤ 9223372036854775807
instance (x y : Int) : Decidable (Apt x y) := inferInstanceAs (Decidable (_ ∧ _))
def s258 (x y : Int) : Option (Fr × Unit) := if Apt x y then some (frac x y, ()) else none
def s205 (x y : Int) : Option (Fr × Unit) := if Apt x y then some (frac x y, ()) else none
theorem h258 (x y : Int) (z : Fr × Unit) (hw : WFs A258 (x, y, ())) (h : s258 x y = some z) : ∃ k, f258 s305 k x y = some z := by
  clear hw
  unfold s258 at h
  split at h
  rotate_left
  · cases h
  rename_i hc
  cases h
  obtain ⟨h1, h2, h3, h4⟩ := hc
  obtain ⟨a, rfl⟩ := Int.eq_ofNat_of_zero_le h1
  obtain ⟨b, rfl⟩ := Int.eq_ofNat_of_zero_le (by omega : (0 : Int) ≤ y)
  refine ⟨0, ?_⟩
  unfold f258
  have e0 : (if (decide ((IntKind.i64.wrap (-(a : Int))) > (a : Int))) then (IntKind.i64.wrap (-(a : Int))) else (a : Int)) = (a : Int) := by
    rw [wrap_ok (by omega) (by omega), if_neg (by simp only [decide_eq_true_eq]; omega)]
  have hg : 0 < Nat.gcd a b := Nat.gcd_pos_of_pos_right _ (by omega)
  have e1 : s305 (a : Int) (b : Int) = some (((Nat.gcd a b : Nat) : Int), ()) := by
    unfold s305
    rw [if_pos ⟨by omega, by omega⟩]
    rfl
  have e2 : decide ((((Nat.gcd a b : Nat)) : Int) = 0) = false := by simp; omega
  have e3 : ∀ n : Nat, (n : Int) ≤ 9223372036854775807 → IntKind.i64.wrap (Int.tdiv (n : Int) ((Nat.gcd a b : Nat) : Int)) = ((n / Nat.gcd a b : Nat) : Int) := fun n hn => by
    rw [← Int.ofNat_tdiv]
    have := Nat.div_le_self n (Nat.gcd a b)
    generalize n / Nat.gcd a b = m at *
    exact wrap_ok (by omega) (by omega)
  simp only [e0, e1, e2, Option.bind_some, cond_false, e3 a h3, e3 b h4]
  rfl
theorem h205 (x y : Int) (z : Fr × Unit) (hw : WFs A205 (x, y, ())) (h : s205 x y = some z) : ∃ k, f205 k x y = some z := by
  clear hw
  unfold s205 at h
  split at h
  rotate_left
  · cases h
  rename_i hc
  cases h
  obtain ⟨h1, h2, h3, h4⟩ := hc
  obtain ⟨a, rfl⟩ := Int.eq_ofNat_of_zero_le h1
  obtain ⟨b, rfl⟩ := Int.eq_ofNat_of_zero_le (by omega : (0 : Int) ≤ y)
  refine ⟨b + 1, ?_⟩
  unfold f205
  rw [gcd_iter ?h1 ?h2 (b + 1) a b (Nat.lt_succ_self b)]
  case h1 =>
    intro a b hb
    have e1 : (((b : Int)) != (0 : Int)) = true := by simp; omega
    have e2 : decide ((b : Int) = 0) = false := by simp; omega
    simp only [e1, e2, cond_true, cond_false]
    rfl
  case h2 => intro a; rfl
  have hg : 0 < Nat.gcd a b := Nat.gcd_pos_of_pos_right _ (by omega)
  have e2 : decide ((((Nat.gcd a b : Nat)) : Int) = 0) = false := by simp; omega
  have e4 : decide ((((Nat.gcd a b : Nat)) : Int) < 0) = false := by simp
  have e3 : ∀ n : Nat, (n : Int) ≤ 9223372036854775807 → IntKind.i64.wrap (Int.tdiv (n : Int) ((Nat.gcd a b : Nat) : Int)) = ((n / Nat.gcd a b : Nat) : Int) := fun n hn => by
    rw [← Int.ofNat_tdiv]
    have := Nat.div_le_self n (Nat.gcd a b)
    generalize n / Nat.gcd a b = m at *
    exact wrap_ok (by omega) (by omega)
  simp only [e2, e4, Option.bind_some, cond_false, e3 a h3, e3 b h4]
  rfl
/-! ### products of 64 bits -/
theorem wrap_u (n : Int) : IntKind.u64.wrap n = n % 18446744073709551616 := by
  unfold IntKind.wrap
  simp only [IntKind.signed, IntKind.bits, Bool.false_and]
  rfl
theorem iand_low (a : Int) (h0 : 0 ≤ a) (h1 : a < 18446744073709551616) : iand .u64 a 4294967295 = a % 4294967296 := by
  obtain ⟨n, rfl⟩ := Int.eq_ofNat_of_zero_le h0
  unfold iand
  rw [wrap_u, BitVec.toNat_and]
  have e1 : (BitVec.ofInt IntKind.u64.bits (n : Int)).toNat = n := by
    show (BitVec.ofInt 64 (n : Int)).toNat = n
    rw [BitVec.toNat_ofInt]
    omega
  have e2 : (BitVec.ofInt IntKind.u64.bits 4294967295).toNat = 2 ^ 32 - 1 := by decide
  rw [e1, e2, Nat.and_two_pow_sub_one_eq_mod]
  omega
def s260 (x y : Int) : Fr := match f260 0 x y with | some z => z | none => (0, 0, ())
theorem h260 (x y : Int) (hw : WFs A260 (x, y, ())) : ∃ k, f260 k x y = some (s260 x y) := ⟨0, rfl⟩
theorem mul_parts (a b c d p q r s : Int) (hp : p = a * d) (hq : q = b * c) (hr : r = b * d) (hs : s = a * c) : (a * 4294967296 + b) * (c * 4294967296 + d) = s * 18446744073709551616 + (p + q) * 4294967296 + r := by
  subst hp hq hr hs
  rw [Int.add_mul, Int.mul_add, Int.mul_add]
  have e1 : a * 4294967296 * (c * 4294967296) = a * c * 18446744073709551616 := by
    rw [Int.mul_assoc, Int.mul_left_comm (4294967296 : Int), ← Int.mul_assoc, ← Int.mul_assoc, Int.mul_assoc (a * c)]; rfl
  have e2 : a * 4294967296 * d = a * d * 4294967296 := by rw [Int.mul_assoc, Int.mul_comm (4294967296 : Int), ← Int.mul_assoc]
  have e3 : b * (c * 4294967296) = b * c * 4294967296 := by rw [Int.mul_assoc]
  rw [e1, e2, e3]
  omega
theorem mul_le {a b : Int} (h1 : 0 ≤ a) (h2 : a ≤ 4294967295) (h3 : 0 ≤ b) (h4 : b ≤ 4294967295) : 0 ≤ a * b ∧ a * b ≤ 18446744065119617025 :=
  ⟨Int.mul_nonneg h1 h3, Int.le_trans (Int.mul_le_mul h2 h4 h3 (by omega)) (by decide)⟩
theorem s260_eq {x y : Int} (hx : 0 ≤ x) (hx2 : x < 18446744073709551616) (hy : 0 ≤ y) (hy2 : y < 18446744073709551616) : s260 x y = (x * y / 18446744073709551616, x * y % 18446744073709551616, ()) := by
  have ex : x = (x / 4294967296) * 4294967296 + x % 4294967296 := by omega
  have ey : y = (y / 4294967296) * 4294967296 + y % 4294967296 := by omega
  have a1 : 0 ≤ x / 4294967296 := by omega
  have a2 : x / 4294967296 ≤ 4294967295 := by omega
  have b1 : 0 ≤ x % 4294967296 := by omega
  have b2 : x % 4294967296 ≤ 4294967295 := by omega
  have c1 : 0 ≤ y / 4294967296 := by omega
  have c2 : y / 4294967296 ≤ 4294967295 := by omega
  have d1 : 0 ≤ y % 4294967296 := by omega
  have d2 : y % 4294967296 ≤ 4294967295 := by omega
  obtain ⟨p, hp⟩ : ∃ p, p = (x / 4294967296) * (y % 4294967296) := ⟨_, rfl⟩
  obtain ⟨q, hq⟩ : ∃ q, q = (x % 4294967296) * (y / 4294967296) := ⟨_, rfl⟩
  obtain ⟨r, hr⟩ : ∃ r, r = (x % 4294967296) * (y % 4294967296) := ⟨_, rfl⟩
  obtain ⟨s, hs⟩ : ∃ s, s = (x / 4294967296) * (y / 4294967296) := ⟨_, rfl⟩
  have hm := mul_parts (x / 4294967296) (x % 4294967296) (y / 4294967296) (y % 4294967296) p q r s hp hq hr hs
  rw [← ex, ← ey] at hm
  have gp := mul_le a1 a2 d1 d2
  have gq := mul_le b1 b2 c1 c2
  have gr := mul_le b1 b2 d1 d2
  have gs := mul_le a1 a2 c1 c2
  rw [← hp] at gp
  rw [← hq] at gq
  rw [← hr] at gr
  rw [← hs] at gs
  have fd : ∀ n : Int, Int.fdiv n 4294967296 = n / 4294967296 := fun n => Int.fdiv_eq_ediv_of_nonneg _ (by decide)
  have hp' : IntKind.u64.wrap (x / 4294967296 * (y % 4294967296)) = p := by rw [← hp, wrap_u]; omega
  have hq' : IntKind.u64.wrap (x % 4294967296 * (y / 4294967296)) = q := by rw [← hq, wrap_u]; omega
  have hr' : IntKind.u64.wrap (x % 4294967296 * (y % 4294967296)) = r := by rw [← hr, wrap_u]; omega
  have hs' : IntKind.u64.wrap (x / 4294967296 * (y / 4294967296)) = s := by rw [← hs, wrap_u]; omega
  have ht : IntKind.u64.wrap (p + r / 4294967296) = p + r / 4294967296 := by rw [wrap_u]; omega
  unfold s260 f260
  simp only [fd, iand_low x hx hx2, iand_low y hy hy2, hp', hq', hr', hs', ht]
  rw [iand_low (p + r / 4294967296) (by omega) (by omega)]
  rw [wrap_u, wrap_u, wrap_u, wrap_u]
  refine Prod.ext ?_ (Prod.ext ?_ rfl)
  · simp only
    rw [hm]
    omega
  · rfl
/-! ### comparisons -/
theorem wrap_u_in (n : Int) : 0 ≤ IntKind.u64.wrap n ∧ IntKind.u64.wrap n < 18446744073709551616 := by rw [wrap_u]; omega
def s200 (a b c d : Int) : Int := cmpI (IntKind.u64.wrap a * IntKind.u64.wrap b) (IntKind.u64.wrap c * IntKind.u64.wrap d)
theorem h200 (a b c d : Int) (hw : WFs A200 (a, b, c, d, ())) : ∃ k, f200 s260 k a b c d = some (s200 a b c d, ()) := ⟨0, by
  unfold f200 s200
  rw [s260_eq (wrap_u_in a).1 (wrap_u_in a).2 (wrap_u_in b).1 (wrap_u_in b).2, s260_eq (wrap_u_in c).1 (wrap_u_in c).2 (wrap_u_in d).1 (wrap_u_in d).2]
  generalize IntKind.u64.wrap a * IntKind.u64.wrap b = m
  generalize IntKind.u64.wrap c * IntKind.u64.wrap d = n
  simp only
  by_cases h : m / 18446744073709551616 = n / 18446744073709551616
  · have e1 : (m / 18446744073709551616 != n / 18446744073709551616) = false := by simp [h]
    have e2 : (m / 18446744073709551616 == n / 18446744073709551616) = true := by simp [h]
    rw [e1, e2]
    simp only [cond_false, cond_true, Option.bind_some]
    unfold cmpI
    by_cases h1 : m % 18446744073709551616 < n % 18446744073709551616
    · rw [decide_eq_true h1, if_pos (by omega)]
      rfl
    · rw [decide_eq_false h1, if_neg (by omega)]
      by_cases h2 : m % 18446744073709551616 = n % 18446744073709551616
      · rw [show (m % 18446744073709551616 == n % 18446744073709551616) = true from by simp [h2], if_neg (by omega)]
        rfl
      · rw [show (m % 18446744073709551616 == n % 18446744073709551616) = false from by simp [h2], if_pos (by omega)]
        rfl
  · have e1 : (m / 18446744073709551616 != n / 18446744073709551616) = true := by simp [h]
    have e2 : (m / 18446744073709551616 == n / 18446744073709551616) = false := by simp [h]
    rw [e1, e2]
    simp only [cond_false, cond_true, Option.bind_some]
    unfold cmpI
    by_cases h1 : m / 18446744073709551616 < n / 18446744073709551616
    · rw [decide_eq_true h1, if_pos (by omega)]
      rfl
    · rw [decide_eq_false h1, if_neg (by omega), if_pos (by omega)]
      rfl⟩
def s314 (a : Int) : Bool := false
theorem h314 (a : Int) (hw : WFs A314 (a, ())) : ∃ k, f314 k a = some (s314 a, ()) := ⟨0, by unfold f314 s314; simp⟩
def s262 (a b : Int) : Int := cmpI a b
theorem h262 (a b : Int) (hw : WFs A262 (a, b, ())) : ∃ k, f262 s314 k a b = some (s262 a b, ()) := ⟨0, by
  unfold f262 s314 s262 cmpI
  simp only [cond_false]
  by_cases h : a < b
  · simp [h]
  · by_cases h2 : a > b <;> simp [h, h2]⟩
def s207 (x y : Fr) : Int := cmpI (IntKind.u64.wrap x.1 * IntKind.u64.wrap y.2.1) (IntKind.u64.wrap y.1 * IntKind.u64.wrap x.2.1)
theorem h207 (x y : Fr) (hw : WFs A207 (x, y, ())) : ∃ k, f207 s260 s262 k x y = some (s207 x y, ()) := ⟨0, by
  unfold f207 s207
  rw [s260_eq (wrap_u_in _).1 (wrap_u_in _).2 (wrap_u_in _).1 (wrap_u_in _).2, s260_eq (wrap_u_in _).1 (wrap_u_in _).2 (wrap_u_in _).1 (wrap_u_in _).2]
  generalize IntKind.u64.wrap x.1 * IntKind.u64.wrap y.2.1 = m
  generalize IntKind.u64.wrap y.1 * IntKind.u64.wrap x.2.1 = n
  simp only [show s262 = cmpI from rfl]
  by_cases h : m / 18446744073709551616 = n / 18446744073709551616
  · rw [show (cmpI (m / 18446744073709551616) (n / 18446744073709551616) != 0) = false from by rw [cmpI_zero.2 h]; rfl]
    simp only [cond_false]
    congr 2
    unfold cmpI
    by_cases h1 : m < n
    · rw [if_pos (by omega), if_pos h1]
    · by_cases h2 : m > n
      · rw [if_neg (by omega), if_pos (by omega), if_neg h1, if_pos h2]
      · rw [if_neg (by omega), if_neg (by omega), if_neg h1, if_neg h2]
  · rw [show (cmpI (m / 18446744073709551616) (n / 18446744073709551616) != 0) = true from bne_iff_ne.2 (fun e => h (cmpI_zero.1 e))]
    simp only [cond_true]
    congr 2
    unfold cmpI
    by_cases h1 : m < n
    · rw [if_pos (by omega), if_pos h1]
    · rw [if_neg (by omega), if_pos (by omega), if_neg h1, if_pos (by omega)]⟩
/-! ### fractions in lowest terms -/
theorem frac_pos {x y : Int} (h : Apt x y) : 0 ≤ (frac x y).1 ∧ 0 < (frac x y).2.1 ∧ (frac x y).1 ≤ x ∧ (frac x y).2.1 ≤ y := by
  obtain ⟨h1, h2, _, _⟩ := h
  unfold frac
  have hg : 0 < Nat.gcd x.toNat y.toNat := Nat.gcd_pos_of_pos_right _ (by omega)
  have hle : Nat.gcd x.toNat y.toNat ≤ y.toNat := Nat.le_of_dvd (by omega) (Nat.gcd_dvd_right _ _)
  have := Nat.div_le_self x.toNat (Nat.gcd x.toNat y.toNat)
  have := Nat.div_le_self y.toNat (Nat.gcd x.toNat y.toNat)
  have := Nat.div_pos hle hg
  generalize x.toNat / Nat.gcd x.toNat y.toNat = p at *
  generalize y.toNat / Nat.gcd x.toNat y.toNat = q at *
  refine ⟨by simp only; omega, by simp only; omega, by simp only; omega, by simp only; omega⟩
theorem frac_eq {x y z w : Int} (h : Apt x y) (h' : Apt z w) (he : (frac x y).1 * (frac z w).2.1 = (frac z w).1 * (frac x y).2.1) : frac x y = frac z w := by
  have p1 := frac_pos h
  have p2 := frac_pos h'
  obtain ⟨h1, h2, _, _⟩ := h
  obtain ⟨h3, h4, _, _⟩ := h'
  unfold frac at *
  simp only at *
  have c1 : Nat.Coprime (x.toNat / Nat.gcd x.toNat y.toNat) (y.toNat / Nat.gcd x.toNat y.toNat) := Nat.coprime_div_gcd_div_gcd (Nat.gcd_pos_of_pos_right _ (by omega))
  have c2 : Nat.Coprime (z.toNat / Nat.gcd z.toNat w.toNat) (w.toNat / Nat.gcd z.toNat w.toNat) := Nat.coprime_div_gcd_div_gcd (Nat.gcd_pos_of_pos_right _ (by omega))
  generalize x.toNat / Nat.gcd x.toNat y.toNat = a at *
  generalize y.toNat / Nat.gcd x.toNat y.toNat = b at *
  generalize z.toNat / Nat.gcd z.toNat w.toNat = c at *
  generalize w.toNat / Nat.gcd z.toNat w.toNat = d at *
  have he : a * d = c * b := by exact_mod_cast he
  have d1 : b ∣ d := c1.symm.dvd_of_dvd_mul_left ⟨c, by rw [he, Nat.mul_comm]⟩
  have d2 : d ∣ b := c2.symm.dvd_of_dvd_mul_left ⟨a, by rw [← he, Nat.mul_comm]⟩
  have e : b = d := Nat.dvd_antisymm d1 d2
  subst e
  have : a = c := Nat.eq_of_mul_eq_mul_right (by omega) he
  rw [this]
end Go.Vm

/- RatingsScored: the ratings that count, and their sums. Own work. -/
set_option linter.unusedVariables false
set_option linter.unusedSimpArgs false
namespace Go.Vm
open Go.RowKit Go.Vm.Gain
/-! ### the ratings that count -/
def sameW (a b : Rt) : Bool := wCmp a b == 0
def stepC (out : List Rt) (r : Rt) : List Rt :=
  match out.getLast? with
  | some o => bif sameW o r then out.dropLast ++ [r] else out ++ [r]
  | none => out ++ [r]
def countC (l : List Rt) (at_ : Int) : List Rt := (l.filter fun r => decide (rAt r ≤ at_)).foldl stepC []
theorem stepC_len (out : List Rt) (r : Rt) : (stepC out r).length ≤ out.length + 1 := by
  unfold stepC
  cases h : out.getLast? with
  | none => simp
  | some o =>
    simp only
    cases sameW o r <;> simp <;> omega
theorem fold_len : ∀ (l out : List Rt), (l.foldl stepC out).length ≤ out.length + l.length
  | [], out => by simp
  | r :: l, out => by
    have := fold_len l (stepC out r)
    have := stepC_len out r
    simp only [List.foldl_cons, List.length_cons]
    omega
theorem count_len (l : List Rt) (at_ : Int) : (countC l at_).length ≤ l.length := by
  have h := fold_len (l.filter fun r => decide (rAt r ≤ at_)) []
  have := List.length_filter_le (fun r => decide (rAt r ≤ at_)) l
  unfold countC
  simp only [List.length_nil, Nat.zero_add] at h
  omega
theorem fold_mem : ∀ (l out : List Rt) (x : Rt), x ∈ l.foldl stepC out → x ∈ out ∨ x ∈ l
  | [], out, x, h => .inl h
  | r :: l, out, x, h => by
    rw [List.foldl_cons] at h
    rcases fold_mem l (stepC out r) x h with h | h
    · unfold stepC at h
      cases hl : out.getLast? with
      | none =>
        rw [hl] at h
        simp only [List.mem_append, List.mem_singleton] at h
        exact h.elim .inl fun e => .inr (by simp [e])
      | some o =>
        rw [hl] at h
        simp only at h
        cases hs : sameW o r <;> rw [hs] at h
        · simp only [cond_false, List.mem_append, List.mem_singleton] at h
          exact h.elim .inl fun e => .inr (by simp [e])
        · simp only [cond_true, List.mem_append, List.mem_singleton] at h
          exact h.elim (fun h => .inl ((List.dropLast_sublist _).subset h)) fun e => .inr (by simp [e])
    · exact .inr (List.mem_cons_of_mem _ h)
theorem count_mem {l : List Rt} {at_ : Int} {x : Rt} (h : x ∈ countC l at_) : x ∈ l ∧ rAt x ≤ at_ := by
  rcases fold_mem _ [] x h with h | h
  · cases h
  · rw [List.mem_filter] at h
    exact ⟨h.1, by simpa using h.2⟩
def s257 (l : List Rt) (at_ : Int) : Option (List Rt × Unit) := if l.length ≤ 3000 then some (countC l at_, ()) else none
theorem last_set {α : Type} {out : List α} {o : α} (h : out.getLast? = some o) (r : α) : out.set (out.length - 1) r = out.dropLast ++ [r] := by
  obtain ⟨l, rfl⟩ := List.getLast?_eq_some_iff.1 h
  simp
theorem h257 (l : List Rt) (at_ : Int) (y : List Rt × Unit) (hw : WFs A257 (l, at_, ())) (h : s257 l at_ = some y) : ∃ k, f257 s256 k l at_ = some y := by
  clear hw
  unfold s257 at h
  split at h
  rotate_left
  · cases h
  rename_i hn
  cases h
  have hl : l.length ≤ 9223372036854775807 := by omega
  refine ⟨l.length + 1, ?_⟩
  unfold f257
  rw [iter_scanI (s0 := (([], (0 : Int), ()), ())) (β := List Rt) l (fun j o => ((o, (j : Int), ()), ())) (fun _ x o => .inl (if decide (rAt x ≤ at_) then stepC o x else o)) (fun o => .inr ((o, ()), ())) (fun j o => o.length ≤ j) [] (Nat.le_refl _) rfl (Nat.lt_succ_self _) ?a0 ?a1 ?a2]
  case a2 => intro o _; simp
  case a0 =>
    intro j x o o' hx hJ hs
    cases hs
    have := stepC_len o x
    by_cases h : decide (rAt x ≤ at_) = true
    · rw [if_pos h]; omega
    · rw [if_neg h]; omega
  case a1 =>
    intro j x o hx hJ
    have hj := (List.getElem?_eq_some_iff.1 hx).1
    have hol : o.length ≤ 9223372036854775807 := by omega
    simp only [lt_at hx, inR_at hx, rd_at hx, wrap_succ hx hl, cond_true]
    by_cases hat : rAt x ≤ at_
    · rw [decide_eq_false (show ¬ x.2.2.2.2.1 > at_ from Int.not_lt.2 hat), if_pos (decide_eq_true hat)]
      simp only [cond_false]
      have hap : decide (o.length + [x].length ≤ 4294967296) = true := decide_eq_true (by simp; omega)
      rcases last_at hol with ⟨rfl, _⟩ | ⟨p, hp0, hp1, hp2, hp3⟩
      · simp only [List.length_nil, Int.natCast_zero]
        rw [show decide (IntKind.i64.wrap ((0 : Int) - 1) ≥ 0) = false from by decide]
        simp only [cond_false, Option.bind_some]
        rfl
      · have e0 : decide (((o.length - 1 : Nat) : Int) ≥ 0) = true := by simp
        simp only [hp3, e0, cond_true, inR_at hp2, rd_at hp2, Option.bind_some, Int.toNat_natCast, hap]
        unfold stepC
        rw [hp1]
        simp only [s256, sameW]
        cases wCmp p x == 0
        · rfl
        · simp only [cond_true]
          rw [last_set hp1]
    · rw [decide_eq_true (show x.2.2.2.2.1 > at_ from Int.not_le.1 hat), if_neg (by simpa using hat)]
      rfl
  rw [scan_fold0 (fun (x : Rt) (o : List Rt) => if decide (rAt x ≤ at_) then stepC o x else o)]
  unfold countC
  rw [List.foldl_filter]
  rfl
/-! ### weights -/
def wt (half at_ : Int) (r : Rt) : Int := if half > 0 then (((1024 / 2 ^ (min ((at_ - rAt r) / half) 10).toNat : Nat)) : Int) else 1024
theorem wt_range (half at_ : Int) (r : Rt) : 0 ≤ wt half at_ r ∧ wt half at_ r ≤ 1024 := by
  unfold wt
  split
  · have := Nat.div_le_self 1024 (2 ^ (min ((at_ - rAt r) / half) 10).toNat)
    generalize 1024 / 2 ^ (min ((at_ - rAt r) / half) 10).toNat = m at *
    omega
  · omega
/-- moments that are moderate -/
structure Near (half at_ : Int) (r : Rt) : Prop where
  h0 : 0 ≤ half
  a0 : 0 ≤ rAt r
  a1 : rAt r ≤ at_
  a2 : at_ < 345686400000
theorem steps_eq {half at_ : Int} {r : Rt} (h : Near half at_ r) (hp : half > 0) :
    (if (decide ((IntKind.i64.wrap (Int.tdiv (IntKind.i64.wrap (at_ - rAt r)) half)) < (10 : Int))) then (IntKind.i64.wrap (Int.tdiv (IntKind.i64.wrap (at_ - rAt r)) half)) else (10 : Int)) = min ((at_ - rAt r) / half) 10 ∧ 0 ≤ (at_ - rAt r) / half := by
  obtain ⟨h0, a0, a1, a2⟩ := h
  have e1 : IntKind.i64.wrap (at_ - rAt r) = at_ - rAt r := wrap_ok (by omega) (by omega)
  have e2 : Int.tdiv (at_ - rAt r) half = (at_ - rAt r) / half := Int.tdiv_eq_ediv_of_nonneg (by omega)
  have e3 : 0 ≤ (at_ - rAt r) / half := Int.ediv_nonneg (by omega) (by omega)
  have e4 : (at_ - rAt r) / half ≤ at_ - rAt r := Int.ediv_le_self _ (by omega)
  rw [e1, e2, wrap_ok (by omega) (by omega)]
  refine ⟨?_, e3⟩
  by_cases h : (at_ - rAt r) / half < 10
  · rw [if_pos (decide_eq_true h)]; omega
  · rw [if_neg (by simpa using h)]; omega
theorem wt_join {σ : Type} {half at_ : Int} {r : Rt} (h : Near half at_ r) :
    (bif (decide (half > (0 : Int))) then
      bif decide (half = 0) then
        none
      else
        bif decide (0 ≤ (if (decide ((IntKind.i64.wrap (Int.tdiv (IntKind.i64.wrap (at_ - rAt r)) half)) < (10 : Int))) then (IntKind.i64.wrap (Int.tdiv (IntKind.i64.wrap (at_ - rAt r)) half)) else (10 : Int))) then
          some (.inr (((Int.fdiv (1024 : Int) ((2 : Int) ^ (min (Int.toNat (if (decide ((IntKind.i64.wrap (Int.tdiv (IntKind.i64.wrap (at_ - rAt r)) half)) < (10 : Int))) then (IntKind.i64.wrap (Int.tdiv (IntKind.i64.wrap (at_ - rAt r)) half)) else (10 : Int))) 64))), ()), ()))
        else
          none
    else
      some (.inr (((1024 : Int), ()), ()))) = (some (.inr ((wt half at_ r, ()), ())) : Option (σ ⊕ ((Int × Unit) × Unit))) := by
  by_cases hp : half > 0
  · obtain ⟨e, e3⟩ := steps_eq h hp
    rw [decide_eq_true hp, decide_eq_false (show ¬ half = 0 from by omega), e, decide_eq_true (show 0 ≤ min ((at_ - rAt r) / half) 10 from by omega)]
    show (some (Sum.inr ((Int.fdiv 1024 ((2 : Int) ^ (min (Int.toNat (min ((at_ - rAt r) / half) 10)) 64)), ()), ())) : Option (σ ⊕ ((Int × Unit) × Unit))) = _
    unfold wt
    rw [if_pos hp]
    have hm : min (min ((at_ - rAt r) / half) 10).toNat 64 = (min ((at_ - rAt r) / half) 10).toNat := by omega
    rw [hm]
    generalize (min ((at_ - rAt r) / half) 10).toNat = n
    rw [Int.fdiv_eq_ediv_of_nonneg _ (Int.le_of_lt (Int.pow_pos (by decide)))]
    have e : (((1024 / 2 ^ n : Nat)) : Int) = (1024 : Int) / (2 : Int) ^ n := by rw [Int.natCast_ediv, Int.natCast_pow]; rfl
    rw [e]
  · rw [decide_eq_false hp]
    unfold wt
    rw [if_neg hp]
    rfl
/-! ### sums -/
abbrev Mi : Type := MapC .str (.int .i64)
def iGet (x : ByteArray) (m : Mi) : Int := mget (keq .str) (0 : Int) x m.1
def iPut (x : ByteArray) (v : Int) (m : Mi) : Mi := mput (keq .str) x v m
theorem iGet_put (x y : ByteArray) (v : Int) (m : Mi) : iGet y (iPut x v m) = cond (sEq y x) v (iGet y m) := mget_mput (eq := keq .str) (fun a b => sEq_iff) 0 x v m y
def addR2 (half at_ : Int) (r : Rt) (m : Mi × Mi) : Mi × Mi :=
  (iPut (rTo r) (IntKind.i64.wrap (iGet (rTo r) m.1 + IntKind.i64.wrap (IntKind.i64.wrap (1000 * wt half at_ r) * rStars r))) m.1,
   iPut (rTo r) (IntKind.i64.wrap (iGet (rTo r) m.2 + IntKind.i64.wrap (1000 * wt half at_ r))) m.2)
/-- the sum of what counts for somebody -/
def tot (g : Rt → Int) (who : ByteArray) : List Rt → Int
  | [] => 0
  | r :: l => (bif sEq (rTo r) who then g r else 0) + tot g who l
def gS (half at_ : Int) (r : Rt) : Int := 1000 * wt half at_ r * rStars r
def gW (half at_ : Int) (r : Rt) : Int := 1000 * wt half at_ r
theorem gW_range (half at_ : Int) (r : Rt) : 0 ≤ gW half at_ r ∧ gW half at_ r ≤ 1024000 := by
  have := wt_range half at_ r
  unfold gW
  omega
theorem gS_range {half at_ : Int} {r : Rt} (h : 1 ≤ rStars r ∧ rStars r ≤ 5) : 0 ≤ gS half at_ r ∧ gS half at_ r ≤ 5120000 := by
  have hg := gW_range half at_ r
  unfold gS
  rw [show 1000 * wt half at_ r = gW half at_ r from rfl]
  refine ⟨Int.mul_nonneg hg.1 (by omega), ?_⟩
  calc gW half at_ r * rStars r ≤ 1024000 * 5 := Int.mul_le_mul hg.2 h.2 (by omega) (by decide)
    _ = 5120000 := by decide
theorem tot_range {g : Rt → Int} {B : Int} (hB : 0 ≤ B) (who : ByteArray) : ∀ (l : List Rt), (∀ r ∈ l, 0 ≤ g r ∧ g r ≤ B) → 0 ≤ tot g who l ∧ tot g who l ≤ B * (l.length : Int)
  | [], _ => by simp [tot]
  | r :: l, h => by
    have h1 := h r (by simp)
    have h2 := tot_range hB who l (fun x hx => h x (by simp [hx]))
    simp only [tot, List.length_cons]
    have e : B * ((l.length + 1 : Nat) : Int) = B * (l.length : Int) + B := by rw [Int.natCast_add, Int.mul_add]; simp
    rw [e]
    cases sEq (rTo r) who <;> simp only [cond_true, cond_false] <;> omega
theorem sums_get (half at_ : Int) : ∀ (C : List Rt) (m : Mi × Mi) (B : Int), (∀ r ∈ C, 1 ≤ rStars r ∧ rStars r ≤ 5) → (∀ who, 0 ≤ iGet who m.1 ∧ iGet who m.1 ≤ B) → (∀ who, 0 ≤ iGet who m.2 ∧ iGet who m.2 ≤ B) → B + 5120000 * (C.length : Int) ≤ 4611686018427387904 →
    ∀ who, iGet who (C.foldl (fun m r => addR2 half at_ r m) m).1 = iGet who m.1 + tot (gS half at_) who C ∧ iGet who (C.foldl (fun m r => addR2 half at_ r m) m).2 = iGet who m.2 + tot (gW half at_) who C
  | [], m, B, _, _, _, _, who => by simp [tot]
  | r :: C, m, B, hst, hm1, hm2, hB, who => by
    have hs := hst r (by simp)
    have g1 := gS_range (half := half) (at_ := at_) hs
    have g2 := gW_range half at_ r
    have hlen : 5120000 * ((r :: C).length : Int) = 5120000 * (C.length : Int) + 5120000 := by simp; omega
    rw [hlen] at hB
    have e1 : IntKind.i64.wrap (1000 * wt half at_ r) = gW half at_ r := wrap_ok (by unfold gW at g2; omega) (by unfold gW at g2; omega)
    have e2 : IntKind.i64.wrap (gW half at_ r * rStars r) = gS half at_ r := wrap_ok (by unfold gS at g1; unfold gW; omega) (by unfold gS at g1; unfold gW; omega)
    have a1 := hm1 (rTo r)
    have a2 := hm2 (rTo r)
    have e3 : IntKind.i64.wrap (iGet (rTo r) m.1 + gS half at_ r) = iGet (rTo r) m.1 + gS half at_ r := wrap_ok (by omega) (by omega)
    have e4 : IntKind.i64.wrap (iGet (rTo r) m.2 + gW half at_ r) = iGet (rTo r) m.2 + gW half at_ r := wrap_ok (by omega) (by omega)
    have p1 : ∀ who, iGet who (addR2 half at_ r m).1 = iGet who m.1 + (bif sEq (rTo r) who then gS half at_ r else 0) := fun who => by
      unfold addR2
      rw [e1, e2, e3, iGet_put]
      by_cases h : who = rTo r
      · rw [sEq_iff.2 h, sEq_iff.2 h.symm, h]; rfl
      · rw [show sEq who (rTo r) = false from by rw [← Bool.not_eq_true]; exact fun e => h (sEq_iff.1 e), show sEq (rTo r) who = false from by rw [← Bool.not_eq_true]; exact fun e => h (sEq_iff.1 e).symm]
        simp
    have p2 : ∀ who, iGet who (addR2 half at_ r m).2 = iGet who m.2 + (bif sEq (rTo r) who then gW half at_ r else 0) := fun who => by
      unfold addR2
      rw [e1, e4, iGet_put]
      by_cases h : who = rTo r
      · rw [sEq_iff.2 h, sEq_iff.2 h.symm, h]; rfl
      · rw [show sEq who (rTo r) = false from by rw [← Bool.not_eq_true]; exact fun e => h (sEq_iff.1 e), show sEq (rTo r) who = false from by rw [← Bool.not_eq_true]; exact fun e => h (sEq_iff.1 e).symm]
        simp
    have ih := sums_get half at_ C (addR2 half at_ r m) (B + 5120000) (fun x hx => hst x (by simp [hx])) (fun w => by
      have := hm1 w
      rw [p1 w]
      cases sEq (rTo r) w <;> simp only [cond_true, cond_false] <;> omega) (fun w => by
      have := hm2 w
      rw [p2 w]
      cases sEq (rTo r) w <;> simp only [cond_true, cond_false] <;> omega) (by omega) who
    rw [List.foldl_cons, ih.1, ih.2, p1 who, p2 who]
    simp only [tot]
    omega
theorem sums_iter {τ : Type} (half at_ : Int) (C : List Rt) {f : (Int × Unit) × (Mi × Mi × Unit) → Option (((Int × Unit) × (Mi × Mi × Unit)) ⊕ (τ ⊕ (Unit × (Mi × Mi × Unit))))}
    (h1 : ∀ (j : Nat) (x : Rt) (m1 m2 : Mi), C[j]? = some x → f (((j : Int), ()), (m1, m2, ())) = some (.inl ((((j + 1 : Nat) : Int), ()), ((addR2 half at_ x (m1, m2)).1, (addR2 half at_ x (m1, m2)).2, ()))))
    (h2 : ∀ m1 m2, f (((C.length : Int), ()), (m1, m2, ())) = some (.inr (.inr ((), (m1, m2, ()))))) :
    iter (C.length + 1) f (((0 : Int), ()), ((([], 0) : Mi), (([], 0) : Mi), ())) = some (.inr ((), ((C.foldl (fun m r => addR2 half at_ r m) (([], 0), ([], 0))).1, (C.foldl (fun m r => addR2 half at_ r m) (([], 0), ([], 0))).2, ()))) := by
  rw [iter_scan0 (s0 := (((0 : Int), ()), ((([], 0) : Mi), (([], 0) : Mi), ()))) (β := Mi × Mi) C (fun j m => (((j : Int), ()), (m.1, m.2, ()))) (fun _ x m => .inl (addR2 half at_ x m)) (fun m => .inr ((), (m.1, m.2, ()))) (([], 0), ([], 0)) rfl (Nat.lt_succ_self _) (fun j x m hx => h1 j x m.1 m.2 hx) (fun m => h2 m.1 m.2), scan_fold0 (fun x m => addR2 half at_ x m)]
end Go.Vm

/- RatingsScored: scores. Own work. -/
set_option linter.unusedVariables false
set_option linter.unusedSimpArgs false
namespace Go.Vm
open Go.RowKit Go.Vm.Gain
def scoreN (f : Fa) (C : List Rt) (who : ByteArray) (at_ : Int) : Int := 1024 * f.1 * f.2.1 + tot (gS f.2.2.1 at_) who C
def scoreD (f : Fa) (C : List Rt) (who : ByteArray) (at_ : Int) : Int := 1024000 * f.1 + tot (gW f.2.2.1 at_) who C
def scoreQ (f : Fa) (C : List Rt) (who : ByteArray) (at_ : Int) : Option Fr := if scoreD f C who at_ = 0 then none else some (frac (scoreN f C who at_) (scoreD f C who at_))
def outQ : Option Fr → Fr × Bool × Unit
  | none => ((0, 0, ()), false, ())
  | some q => (q, true, ())
structure FaOK (f : Fa) : Prop where
  many : 0 ≤ f.1 ∧ f.1 ≤ 1000
  stars : 1000 ≤ f.2.1 ∧ f.2.1 ≤ 5000
  half : 0 ≤ f.2.2.1 ∧ f.2.2.1 ≤ 345686400000
theorem faith_ok {f : Fa} (h : fFault f = 0) : FaOK f := by
  unfold fFault at h
  obtain ⟨h1, h⟩ := cond_zero h (by decide)
  obtain ⟨h2, h⟩ := cond_zero h (by decide)
  obtain ⟨h3, h⟩ := cond_zero h (by decide)
  exact ⟨outd_false h1, outd_false h2, outd_false h3⟩
theorem base_range {f : Fa} (h : FaOK f) : 0 ≤ 1024 * f.1 * f.2.1 ∧ 1024 * f.1 * f.2.1 ≤ 5120000000 := by
  obtain ⟨⟨h1, h2⟩, ⟨h3, h4⟩, _⟩ := h
  refine ⟨Int.mul_nonneg (by omega) (by omega), ?_⟩
  calc 1024 * f.1 * f.2.1 ≤ 1024000 * 5000 := Int.mul_le_mul (by omega) h4 (by omega) (by decide)
    _ = 5120000000 := by decide
theorem score_range {f : Fa} (h : FaOK f) {C : List Rt} (hC : C.length ≤ 3000) (hs : ∀ r ∈ C, 1 ≤ rStars r ∧ rStars r ≤ 5) (who : ByteArray) (at_ : Int) :
    (0 ≤ scoreN f C who at_ ∧ scoreN f C who at_ ≤ 20480000000) ∧ (0 ≤ scoreD f C who at_ ∧ scoreD f C who at_ ≤ 16384000000) := by
  have h1 := base_range h
  have h2 := tot_range (g := gS f.2.2.1 at_) (B := 5120000) (by decide) who C (fun r hr => gS_range (hs r hr))
  have h3 := tot_range (g := gW f.2.2.1 at_) (B := 5120000) (by decide) who C (fun r _ => by have := gW_range f.2.2.1 at_ r; omega)
  obtain ⟨⟨m1, m2⟩, _, _⟩ := h
  unfold scoreN scoreD
  omega
theorem score_apt {f : Fa} (h : FaOK f) {C : List Rt} (hC : C.length ≤ 3000) (hs : ∀ r ∈ C, 1 ≤ rStars r ∧ rStars r ≤ 5) (who : ByteArray) (at_ : Int) (h0 : scoreD f C who at_ ≠ 0) : Apt (scoreN f C who at_) (scoreD f C who at_) := by
  have := score_range h hC hs who at_
  exact ⟨by omega, by omega, by omega, by omega⟩
/-- what somebody has, read off the sums -/
theorem score_join {σ : Type} {f : Fa} (h : FaOK f) {C : List Rt} (hC : C.length ≤ 3000) (hs : ∀ r ∈ C, 1 ≤ rStars r ∧ rStars r ≤ 5) (who : ByteArray) (at_ : Int) {m : Mi × Mi} (hm : m = C.foldl (fun m r => addR2 f.2.2.1 at_ r m) (([], 0), ([], 0))) :
    (bif ((IntKind.i64.wrap (iGet who m.2 + (IntKind.i64.wrap ((1024000 : Int) * f.1)))) == (0 : Int)) then
      some (.inr (((((0 : Int), (0 : Int), ()), false, ()) : Fr × Bool × Unit), ()))
    else
      Option.bind (s258 (IntKind.i64.wrap (iGet who m.1 + (IntKind.i64.wrap ((IntKind.i64.wrap ((1024 : Int) * f.1)) * f.2.1)))) (IntKind.i64.wrap (iGet who m.2 + (IntKind.i64.wrap ((1024000 : Int) * f.1))))) fun v5 =>
      some (.inr ((v5.1, true, ()), ()))) = (some (.inr (outQ (scoreQ f C who at_), ())) : Option (σ ⊕ ((Fr × Bool × Unit) × Unit))) := by
  have hg := sums_get f.2.2.1 at_ C (([], 0), ([], 0)) 0 hs (fun w => by show 0 ≤ (0 : Int) ∧ (0 : Int) ≤ 0; omega) (fun w => by show 0 ≤ (0 : Int) ∧ (0 : Int) ≤ 0; omega) (by omega) who
  rw [← hm] at hg
  have g1 : iGet who m.1 = tot (gS f.2.2.1 at_) who C := by rw [hg.1]; exact Int.zero_add _
  have g2 : iGet who m.2 = tot (gW f.2.2.1 at_) who C := by rw [hg.2]; exact Int.zero_add _
  have hr := score_range h hC hs who at_
  have hb := base_range h
  have h1 := tot_range (g := gS f.2.2.1 at_) (B := 5120000) (by decide) who C (fun r hr => gS_range (hs r hr))
  have h2 := tot_range (g := gW f.2.2.1 at_) (B := 5120000) (by decide) who C (fun r _ => by have := gW_range f.2.2.1 at_ r; omega)
  have hmany := h.many
  have e1 : IntKind.i64.wrap ((1024000 : Int) * f.1) = 1024000 * f.1 := wrap_ok (by omega) (by omega)
  have e2 : IntKind.i64.wrap ((1024 : Int) * f.1) = 1024 * f.1 := wrap_ok (by omega) (by omega)
  have e3 : IntKind.i64.wrap (1024 * f.1 * f.2.1) = 1024 * f.1 * f.2.1 := wrap_ok (by omega) (by omega)
  have e4 : IntKind.i64.wrap (iGet who m.2 + 1024000 * f.1) = scoreD f C who at_ := by
    rw [g2, wrap_ok (by omega) (by omega)]; unfold scoreD; omega
  have e5 : IntKind.i64.wrap (iGet who m.1 + 1024 * f.1 * f.2.1) = scoreN f C who at_ := by
    rw [g1, wrap_ok (by omega) (by omega)]; unfold scoreN; omega
  rw [e1, e2, e3, e4, e5]
  unfold scoreQ
  by_cases h0 : scoreD f C who at_ = 0
  · rw [h0, if_pos rfl]
    rfl
  · rw [if_neg h0, show (scoreD f C who at_ == 0) = false from by simpa using h0]
    unfold s258
    rw [if_pos (score_apt h hC hs who at_ h0)]
    rfl
def s104 (f : Fa) (l : List Rt) (who : ByteArray) (at_ : Int) : Option (Fr × Int × Unit) :=
  if nz [rFaults l, fFault f] = 0 then
    if key who = true then
      if s121 at_ = true then
        match scoreQ f (countC l at_) who at_ with
        | none => some ((0, 0, ()), 8, ())
        | some q => some (q, 0, ())
      else some ((0, 0, ()), 1, ())
    else some ((0, 0, ()), 5, ())
  else some ((0, 0, ()), nz [rFaults l, fFault f], ())
theorem moment_in {a : Int} (h : s121 a = true) : 0 ≤ a ∧ a < 345686400000 := by
  unfold s121 at h
  simp only [Bool.not_eq_true'] at h
  have := outd_false h
  omega
theorem fine_all {l : List Rt} (h : rFaults l = 0) : ∀ r ∈ l, Fine r := fun r hr => fine_of (faults_each h r hr)
theorem near_of {f : Fa} {l : List Rt} {at_ : Int} (hf : FaOK f) (hl : ∀ r ∈ l, Fine r) (ha : s121 at_ = true) {r : Rt} (hr : r ∈ countC l at_) : Near f.2.2.1 at_ r := by
  have h1 := count_mem hr
  have h2 := (hl r h1.1).timed
  exact ⟨hf.half.1, h2.1, h1.2, (moment_in ha).2⟩
theorem h104 (f : Fa) (l : List Rt) (who : ByteArray) (at_ : Int) (y : Fr × Int × Unit) (hw : WFs A104 (f, l, who, at_, ())) (h : s104 f l who at_ = some y) : ∃ k, f104 s107 s113 s121 s123 s195 s257 s258 k f l who at_ = some y := by
  clear hw
  unfold s104 at h
  by_cases hz : nz [rFaults l, fFault f] = 0
  rotate_left
  · rw [if_neg hz] at h
    cases h
    refine ⟨0, ?_⟩
    unfold f104
    rw [show (s123 [s107 l, s195 f] != 0) = true from bne_iff_ne.2 hz]
    rfl
  rw [if_pos hz] at h
  obtain ⟨z1, z2⟩ := nz2 hz
  by_cases hk : key who = true
  rotate_left
  · rw [if_neg hk] at h
    cases h
    refine ⟨0, ?_⟩
    unfold f104
    rw [show (s123 [s107 l, s195 f] != 0) = false from by rw [show s123 [s107 l, s195 f] = 0 from hz]; rfl, show s113 who = false from by rw [← Bool.not_eq_true]; exact hk]
    rfl
  rw [if_pos hk] at h
  by_cases ha : s121 at_ = true
  rotate_left
  · rw [if_neg ha] at h
    cases h
    refine ⟨0, ?_⟩
    unfold f104
    rw [show (s123 [s107 l, s195 f] != 0) = false from by rw [show s123 [s107 l, s195 f] = 0 from hz]; rfl, show s113 who = true from hk, show s121 at_ = false from by simpa using ha]
    rfl
  rw [if_pos ha] at h
  have hlen := faults_len z1
  have hC := count_len l at_
  have hf := faith_ok z2
  have hfine := fine_all z1
  have hst : ∀ r ∈ countC l at_, 1 ≤ rStars r ∧ rStars r ≤ 5 := fun r hr => (hfine r (count_mem hr).1).stars
  have hnear : ∀ r ∈ countC l at_, Near f.2.2.1 at_ r := fun r hr => near_of hf hfine ha hr
  have e257 : s257 l at_ = some (countC l at_, ()) := by unfold s257; rw [if_pos hlen]
  refine ⟨(countC l at_).length + 1, ?_⟩
  unfold f104
  rw [show (s123 [s107 l, s195 f] != 0) = false from by rw [show s123 [s107 l, s195 f] = 0 from hz]; rfl, show s113 who = true from hk, ha, e257]
  simp only [Bool.not_true, cond_false, Option.bind_some]
  have hl : (countC l at_).length ≤ 9223372036854775807 := by omega
  rw [sums_iter f.2.2.1 at_ (countC l at_) ?h1 ?h2]
  case h2 => intro m1 m2; simp
  case h1 =>
    intro j x m1 m2 hx
    simp only [lt_at hx, inR_at hx, rd_at hx, wrap_succ hx hl, cond_true]
    rw [wt_join (hnear x (List.mem_of_getElem? hx))]
    rfl
  simp only [Option.bind_some]
  refine (congrArg (fun q : Option ((Fr × Int × Unit) ⊕ ((Fr × Bool × Unit) × Unit)) => Option.bind q _) (score_join hf (by omega) hst who at_ rfl)).trans ?_
  rw [Option.bind_some]
  cases hq : scoreQ f (countC l at_) who at_ with
  | none => rw [hq] at h; cases h; rfl
  | some q => rw [hq] at h; cases h; rfl
end Go.Vm

/- RatingsScored: the reference's scores. Own work. -/
set_option linter.unusedVariables false
set_option linter.unusedSimpArgs false
namespace Go.Vm
open Go.RowKit Go.Vm.Gain
def laterR (at_ : Int) (r : Rt) (l : List Rt) : Bool := l.any fun o => sameW o r && decide (rAt o ≤ at_)
def keepR (at_ : Int) : List Rt → List Rt
  | [] => []
  | r :: l => bif decide (rAt r ≤ at_) && !laterR at_ r l then r :: keepR at_ l else keepR at_ l
theorem keep_mem {at_ : Int} : ∀ {l : List Rt} {x : Rt}, x ∈ keepR at_ l → x ∈ l ∧ rAt x ≤ at_
  | r :: l, x, h => by
    simp only [keepR] at h
    cases hc : decide (rAt r ≤ at_) && !laterR at_ r l <;> rw [hc] at h
    · have := keep_mem (l := l) h
      exact ⟨List.mem_cons_of_mem _ this.1, this.2⟩
    · simp only [cond_true, List.mem_cons] at h
      rcases h with rfl | h
      · rw [Bool.and_eq_true, decide_eq_true_eq] at hc
        exact ⟨by simp, hc.1⟩
      · have := keep_mem (l := l) h
        exact ⟨List.mem_cons_of_mem _ this.1, this.2⟩
theorem keep_len (at_ : Int) : ∀ (l : List Rt), (keepR at_ l).length ≤ l.length
  | [] => by simp [keepR]
  | r :: l => by
    have := keep_len at_ l
    simp only [keepR]
    cases decide (rAt r ≤ at_) && !laterR at_ r l <;> simp <;> omega
theorem key_same (o r : Rt) : s101 (s204 o) (s204 r) = sameW o r := by
  unfold s101 sameW
  have h : (s204 o = s204 r) ↔ wCmp o r = 0 := by
    unfold s204 wCmp lexC
    constructor
    · intro h
      injection h with h1 h
      injection h with h2 h
      injection h with h3 h
      rw [if_pos (cmpS_zero.2 h1), if_pos (cmpS_zero.2 h2)]
      exact cmpS_zero.2 h3
    · intro h
      split at h
      · rename_i h1
        split at h
        · rename_i h2
          rw [cmpS_zero.1 h1, cmpS_zero.1 h2, cmpS_zero.1 h]
        · rename_i h2; exact absurd h h2
      · rename_i h1; exact absurd h h1
  by_cases e : wCmp o r = 0
  · rw [decide_eq_true (h.2 e)]; simp [e]
  · rw [decide_eq_false (fun x => e (h.1 x))]; simp [e]
/-- who has what, over the rest of a list -/
def refB (f : Fa) (who : ByteArray) (at_ : Int) (l : List Rt) (j : Nat) (x : Rt) (p : Int × Int) : (Int × Int) ⊕ ((Fr × Bool × Unit) ⊕ ((Int × Int × Unit) × (Int × Unit))) :=
  .inl (bif sEq (rTo x) who && (decide (rAt x ≤ at_) && !laterR at_ x (l.drop (j + 1))) then (p.1 + gS f.2.2.1 at_ x, p.2 + gW f.2.2.1 at_ x) else p)
theorem ref_scan (f : Fa) (who : ByteArray) (at_ : Int) (xs : List Rt) : ∀ (l : List Rt) (j : Nat) (p : Int × Int), xs.drop j = l →
    scan (refB f who at_ xs) (fun p => .inr ((p.1, p.2, ()), (at_, ()))) l j p = .inr ((p.1 + tot (gS f.2.2.1 at_) who (keepR at_ l), p.2 + tot (gW f.2.2.1 at_) who (keepR at_ l), ()), (at_, ()))
  | [], j, p, hl => by simp [scan, keepR, tot]
  | x :: l, j, p, hl => by
    have hl' : xs.drop (j + 1) = l := by
      have := congrArg List.tail hl
      simpa using this
    simp only [scan, refB, keepR]
    rw [ref_scan f who at_ xs l (j + 1) _ hl', hl']
    cases decide (rAt x ≤ at_) && !laterR at_ x l
    · rw [Bool.and_false]
      rfl
    · rw [Bool.and_true]
      simp only [cond_true, tot]
      cases sEq (rTo x) who
      · simp
      · simp only [cond_true, Int.add_assoc]
theorem half_iter {τ : Type} {f : (Int × Int × Unit) × Unit → Option (((Int × Int × Unit) × Unit) ⊕ (τ ⊕ ((Int × Unit) × Unit)))} (m : Nat)
    (h1 : ∀ (w : Int) (j : Nat), j < m → f ((w, (j : Int), ()), ()) = some (.inl ((IntKind.i64.wrap (Int.tdiv w 2), IntKind.i64.wrap ((j : Int) + 1), ()), ())))
    (h2 : ∀ w : Int, f ((w, (m : Int), ()), ()) = some (.inr (.inr ((w, ()), ())))) (hm : m ≤ 10) {k : Nat} (hk : m < k) :
    iter k f (((1024 : Int), (0 : Int), ()), ()) = some (.inr (((((1024 / 2 ^ m : Nat)) : Int), ()), ())) := by
  rw [iter_scan0 (s0 := (((1024 : Int), (0 : Int), ()), ())) (β := Unit) (List.replicate m ()) (fun j _ => (((((1024 / 2 ^ j : Nat)) : Int), (j : Int), ()), ())) (fun _ _ _ => .inl ()) (fun _ => .inr (((((1024 / 2 ^ m : Nat)) : Int), ()), ())) () rfl (by simpa using hk) ?a1 ?a2]
  case a2 => intro b; rw [List.length_replicate]; exact h2 _
  case a1 =>
    intro j x b hx
    have hj : j < m := by
      have := (List.getElem?_eq_some_iff.1 hx).1
      simpa using this
    rw [h1 _ j hj]
    have e : IntKind.i64.wrap (Int.tdiv (((1024 / 2 ^ j : Nat)) : Int) 2) = ((1024 / 2 ^ (j + 1) : Nat) : Int) := by
      rw [show (2 : Int) = ((2 : Nat) : Int) from rfl, ← Int.ofNat_tdiv, Nat.div_div_eq_div_mul, ← Nat.pow_succ]
      have := Nat.div_le_self 1024 (2 ^ (j + 1))
      generalize 1024 / 2 ^ (j + 1) = m at *
      exact wrap_ok (by omega) (by omega)
    rw [e, wrap_ok (by omega) (by omega)]
    rfl
  rw [scan_fold0 (fun (_ : Unit) (_ : Unit) => ())]
structure RefOK (f : Fa) (l : List Rt) (at_ : Int) : Prop where
  fa : FaOK f
  len : l.length ≤ 3000
  fine : ∀ r ∈ l, Fine r
  at_ : s121 at_ = true
open Classical in
noncomputable def s110 (f : Fa) (l : List Rt) (who : ByteArray) (at_ : Int) : Option (Fr × Bool × Unit) :=
  if RefOK f l at_ then some (outQ (scoreQ f (keepR at_ l) who at_)) else none
theorem h110 (f : Fa) (l : List Rt) (who : ByteArray) (at_ : Int) (y : Fr × Bool × Unit) (hw : WFs A110 (f, l, who, at_, ())) (h : s110 f l who at_ = some y) : ∃ k, f110 s101 s204 s205 k f l who at_ = some y := by
  clear hw
  unfold s110 at h
  split at h
  rotate_left
  · cases h
  rename_i hok
  cases h
  obtain ⟨hf, hlen, hfine, ha⟩ := hok
  have hat := moment_in ha
  have hl : l.length ≤ 9223372036854775807 := by omega
  have hb := base_range hf
  have hmany := hf.many
  have e1 : IntKind.i64.wrap ((1024 : Int) * f.1) = 1024 * f.1 := wrap_ok (by omega) (by omega)
  have e2 : IntKind.i64.wrap (1024 * f.1 * f.2.1) = 1024 * f.1 * f.2.1 := wrap_ok (by omega) (by omega)
  have e3 : IntKind.i64.wrap (1024 * f.1 * (1000 : Int)) = 1024000 * f.1 := by rw [wrap_ok (by omega) (by omega)]; omega
  refine ⟨l.length + 20, ?_⟩
  unfold f110
  rw [e1, e2, e3]
  rw [iter_scanI (s0 := ((1024 * f.1 * f.2.1, 1024000 * f.1, (0 : Int), ()), (at_, ()))) (β := Int × Int) l (fun j p => ((p.1, p.2, (j : Int), ()), (at_, ()))) (refB f who at_ l) (fun p => .inr ((p.1, p.2, ()), (at_, ())))
    (fun j p => (0 ≤ p.1 ∧ p.1 ≤ 5120000000 + 5120000 * (j : Int)) ∧ (0 ≤ p.2 ∧ p.2 ≤ 1024000000 + 1024000 * (j : Int))) (1024 * f.1 * f.2.1, 1024000 * f.1) (by simp only; omega) rfl (by omega) ?a0 ?a1 ?a2]
  case a2 => intro p _; simp
  case a0 =>
    intro j x p p' hx hJ hs
    have hfx := (hfine x (List.mem_of_getElem? hx)).stars
    have g1 := gS_range (half := f.2.2.1) (at_ := at_) hfx
    have g2 := gW_range f.2.2.1 at_ x
    unfold refB at hs
    cases hs
    cases sEq (rTo x) who && (decide (rAt x ≤ at_) && !laterR at_ x (l.drop (j + 1)))
    · simp only [cond_false]; omega
    · simp only [cond_true]; omega
  case a1 =>
    intro j x p hx hJ
    have hj := (List.getElem?_eq_some_iff.1 hx).1
    have hfx := hfine x (List.mem_of_getElem? hx)
    have g1 := gS_range (half := f.2.2.1) (at_ := at_) hfx.stars
    have g2 := gW_range f.2.2.1 at_ x
    have c1 : (decide (0 ≤ (((j + 1 : Nat)) : Int)) && (decide ((((j + 1 : Nat)) : Int) ≤ (l.length : Int)) && decide ((l.length : Int) ≤ (l.length : Int)))) = true := by
      rw [decide_eq_true (by omega), decide_eq_true (by omega), decide_eq_true (by omega)]; rfl
    simp only [lt_at hx, inR_at hx, rd_at hx, wrap_succ hx hl, cond_true, c1, Int.toNat_natCast, List.take_length]
    have hdl : (l.drop (j + 1)).length ≤ 9223372036854775807 := by rw [List.length_drop]; omega
    rw [iter_find (s0 := (((0 : Int), ()), (x, at_, ()))) (l.drop (j + 1)) (fun i => (((i : Int), ()), (x, at_, ()))) (fun o => sameW o x && decide (rAt o ≤ at_)) (fun i => .inl (.inr ((true, ()), (at_, x, ())))) (.inr ((), (x, at_, ()))) rfl (by rw [List.length_drop]; omega) ?b1 ?b2]
    case b2 => simp
    case b1 =>
      intro i o ho
      simp only [lt_at ho, inR_at ho, rd_at ho, wrap_succ ho hdl, cond_true]
      rw [show s101 (s204 o) (s204 (x.1, x.2.1, x.2.2.1, x.2.2.2.1, x.2.2.2.2.1, ())) = sameW o x from key_same o x, decide_eq_true (show (i : Int) ≥ 0 from by omega)]
      cases sameW o x
      · rfl
      · simp only [cond_true, Bool.true_and]
        cases decide (rAt o ≤ at_) <;> rfl
    have hany : laterR at_ x (l.drop (j + 1)) = ((l.drop (j + 1)).findIdx? fun o => sameW o x && decide (rAt o ≤ at_)).isSome := any_find _ _
    have hjoin : (Option.bind (some (match (l.drop (j + 1)).findIdx? (fun o => sameW o x && decide (rAt o ≤ at_)) with | some i => (.inl (.inr ((true, ()), (at_, x, ()))) : ((((Int × Int × Int × Unit) × (Int × Unit)) ⊕ ((Fr × Bool × Unit) ⊕ ((Int × Int × Unit) × (Int × Unit)))) ⊕ ((Bool × Unit) × (Int × Rt × Unit))) ⊕ (Unit × (Rt × Int × Unit))) | none => .inr ((), (x, at_, ())))) fun r => match r with
        | .inl z => some z
        | .inr z3 => some (.inr ((false, ()), (z3.2.2.1, z3.2.1, ())))) = some (.inr ((laterR at_ x (l.drop (j + 1)), ()), (at_, x, ()))) := by
      rw [hany]
      cases (l.drop (j + 1)).findIdx? (fun o => sameW o x && decide (rAt o ≤ at_)) <;> rfl
    refine (congrArg (fun q => Option.bind q _) hjoin).trans ?_
    rw [Option.bind_some]
    simp only [refB]
    show (bif (!(sEq (rTo x) who)) then _ else (bif decide (rAt x > at_) then _ else (bif laterR at_ x (l.drop (j + 1)) then _ else _))) = _
    cases hto : sEq (rTo x) who
    · rfl
    · by_cases hax : rAt x ≤ at_
      · rw [decide_eq_false (show ¬ rAt x > at_ from by omega), decide_eq_true hax]
        cases hlat : laterR at_ x (l.drop (j + 1))
        · simp only [Bool.not_true, Bool.not_false, Bool.and_self, cond_false, cond_true]
          have hw7 : ∀ X : Option (((((Int × Int × Int × Unit) × (Int × Unit)) ⊕ ((Fr × Bool × Unit) ⊕ ((Int × Int × Unit) × (Int × Unit)))) ⊕ ((Int × Unit) × Unit))), X = some (.inr ((wt f.2.2.1 at_ x, ()), ())) →
              (X.bind fun r => match r with
                | .inl z => some z
                | .inr y7 => some (.inl (((IntKind.i64.wrap (p.1 + (IntKind.i64.wrap ((IntKind.i64.wrap (y7.1.1 * x.2.2.2.1)) * (1000 : Int))))), (IntKind.i64.wrap (p.2 + (IntKind.i64.wrap (y7.1.1 * (1000 : Int))))), ((j + 1 : Nat) : Int), ()), (at_, ())))) =
              some (.inl ((p.1 + gS f.2.2.1 at_ x, p.2 + gW f.2.2.1 at_ x, ((j + 1 : Nat) : Int), ()), (at_, ()))) := by
            intro X hX
            subst hX
            simp only [Option.bind_some]
            have hr := wt_range f.2.2.1 at_ x
            have q2 : wt f.2.2.1 at_ x * 1000 = gW f.2.2.1 at_ x := by unfold gW; omega
            have q1 : wt f.2.2.1 at_ x * x.2.2.2.1 * 1000 = gS f.2.2.1 at_ x := by
              unfold gS
              rw [Int.mul_assoc, Int.mul_comm x.2.2.2.1, ← Int.mul_assoc, Int.mul_comm _ (1000 : Int)]
            have q3 : 0 ≤ wt f.2.2.1 at_ x * x.2.2.2.1 ∧ wt f.2.2.1 at_ x * x.2.2.2.1 ≤ 5120 := by omega
            have r1 : IntKind.i64.wrap (wt f.2.2.1 at_ x * x.2.2.2.1) = wt f.2.2.1 at_ x * x.2.2.2.1 := wrap_ok (by omega) (by omega)
            have r2 : IntKind.i64.wrap (gS f.2.2.1 at_ x) = gS f.2.2.1 at_ x := wrap_ok (by omega) (by omega)
            have r3 : IntKind.i64.wrap (gW f.2.2.1 at_ x) = gW f.2.2.1 at_ x := wrap_ok (by omega) (by omega)
            have r4 : IntKind.i64.wrap (p.1 + gS f.2.2.1 at_ x) = p.1 + gS f.2.2.1 at_ x := wrap_ok (by omega) (by omega)
            have r5 : IntKind.i64.wrap (p.2 + gW f.2.2.1 at_ x) = p.2 + gW f.2.2.1 at_ x := wrap_ok (by omega) (by omega)
            rw [r1, q1, q2, r2, r3, r4, r5]
          refine hw7 _ ?_
          by_cases hp : f.2.2.1 > 0
          · have hnear : Near f.2.2.1 at_ x := ⟨hf.half.1, hfx.timed.1, hax, hat.2⟩
            obtain ⟨e, e0⟩ := steps_eq hnear hp
            rw [decide_eq_true hp, decide_eq_false (show ¬ f.2.2.1 = 0 from by omega)]
            simp only [cond_true, cond_false]
            rw [show (if (decide ((IntKind.i64.wrap (Int.tdiv (IntKind.i64.wrap (at_ - x.2.2.2.2.1)) f.2.2.1)) < (10 : Int))) then (IntKind.i64.wrap (Int.tdiv (IntKind.i64.wrap (at_ - x.2.2.2.2.1)) f.2.2.1)) else (10 : Int)) = min ((at_ - rAt x) / f.2.2.1) 10 from e]
            rw [half_iter (min ((at_ - rAt x) / f.2.2.1) 10).toNat ?c1 ?c2 (by omega) (by omega)]
            case c1 =>
              intro w i hi
              simp only
              rw [decide_eq_true (by omega)]
              rfl
            case c2 =>
              intro w
              simp only
              rw [decide_eq_false (by omega)]
              rfl
            unfold wt
            rw [if_pos hp]
            rfl
          · rw [decide_eq_false hp]
            unfold wt
            rw [if_neg hp]
            rfl
        · rfl
      · rw [decide_eq_true (show rAt x > at_ from by omega), decide_eq_false hax]
        rfl
  rw [ref_scan f who at_ l l 0 _ rfl]
  simp only [Option.bind_some]
  have hC : (keepR at_ l).length ≤ 3000 := Nat.le_trans (keep_len at_ l) hlen
  have hst : ∀ r ∈ keepR at_ l, 1 ≤ rStars r ∧ rStars r ≤ 5 := fun r hr => (hfine r (keep_mem hr).1).stars
  show (bif (scoreD f (keepR at_ l) who at_ == 0) then _ else Option.bind (s205 (scoreN f (keepR at_ l) who at_) (scoreD f (keepR at_ l) who at_)) _) = _
  unfold scoreQ
  by_cases h0 : scoreD f (keepR at_ l) who at_ = 0
  · rw [if_pos h0, h0]
    rfl
  · rw [if_neg h0, show (scoreD f (keepR at_ l) who at_ == 0) = false from by simpa using h0]
    unfold s205
    rw [if_pos (score_apt hf hC hst who at_ h0)]
    rfl
end Go.Vm

/- RatingsScored: people by their scores. Own work. -/
set_option linter.unusedVariables false
set_option linter.unusedSimpArgs false
namespace Go.Vm
open Go.RowKit Go.Vm.Gain
/-! ### the ratings that count, twice -/
theorem chkP_sorted {α : Type} {bad : α → Int} {cmp : α → α → Int} (hc : CmpOK cmp (fun _ => True)) : ∀ (l : List α) (p : Option α), chkP bad (fun o x => decide (cmp x o ≤ 0)) p l = 0 →
    (∀ o, p = some o → ∀ x ∈ l, cmp o x < 0) ∧ l.Pairwise fun a b => cmp a b < 0
  | [], p, _ => ⟨fun _ _ x hx => (by cases hx), List.Pairwise.nil⟩
  | y :: l, p, h => by
    simp only [chkP] at h
    cases hb : bad y != 0 <;> rw [hb] at h
    rotate_left
    · simp only [cond_true] at h
      simp [h] at hb
    simp only [cond_false] at h
    cases h2 : ordP (fun o x => decide (cmp x o ≤ 0)) p y <;> rw [h2] at h
    rotate_left
    · cases h
    simp only [cond_false] at h
    obtain ⟨h3, h4⟩ := chkP_sorted hc l (some y) h
    have h5 := h3 y rfl
    refine ⟨fun o ho x hx => ?_, List.pairwise_cons.2 ⟨h5, h4⟩⟩
    subst ho
    simp only [ordP, decide_eq_false_iff_not] at h2
    have h6 : cmp o y < 0 := by
      have := (hc.flip_le (a := y) (b := o) trivial trivial)
      omega
    rcases List.mem_cons.1 hx with rfl | hx
    · exact h6
    · exact hc.lt_le (a := o) (b := y) (c := x) trivial trivial trivial h6 (by have := h5 x hx; omega)
theorem ratings_sorted {l : List Rt} (h : rFaults l = 0) : l.Pairwise fun a b => wCmp a b ≤ 0 := by
  unfold rFaults at h
  split at h
  · cases h
  · refine (chkP_sorted rCmp_ok l none h).2.imp (fun {a b} hab => ?_)
    unfold rCmp lexC at hab
    split at hab <;> omega
def keepF : List Rt → List Rt
  | [] => []
  | r :: l => bif l.any (sameW · r) then keepF l else r :: keepF l
theorem keep_filter (at_ : Int) : ∀ l : List Rt, keepR at_ l = keepF (l.filter fun r => decide (rAt r ≤ at_))
  | [] => rfl
  | r :: l => by
    have e : laterR at_ r l = (l.filter fun r => decide (rAt r ≤ at_)).any (sameW · r) := by
      unfold laterR
      rw [List.any_filter]
      congr 1
      funext o
      exact Bool.and_comm _ _
    simp only [keepR, keep_filter at_ l, e, List.filter_cons]
    cases decide (rAt r ≤ at_)
    · rfl
    · simp only [Bool.true_and, if_true, keepF]
      cases (l.filter fun r => decide (rAt r ≤ at_)).any (sameW · r) <;> rfl
theorem fold_keep : ∀ (l : List Rt) (x : Rt) (out : List Rt), (x :: l).Pairwise (fun a b => wCmp a b ≤ 0) → l.foldl stepC (out ++ [x]) = out ++ keepF (x :: l)
  | [], x, out, _ => by simp [keepF]
  | y :: l, x, out, h => by
    obtain ⟨h1, h2⟩ := List.pairwise_cons.1 h
    have hxy := h1 y (by simp)
    have hany : (y :: l).any (sameW · x) = sameW x y := by
      unfold sameW
      by_cases e : wCmp x y = 0
      · have e2 := (wCmp_ok.zero (a := x) (b := y) trivial trivial).1 e
        simp [e, e2]
      · have hlt : wCmp x y < 0 := by omega
        rw [show (wCmp x y == 0) = false from by simpa using e]
        rw [List.any_eq_false]
        intro z hz hzx
        have hzx : wCmp z x = 0 := by simpa using hzx
        have hxz := (wCmp_ok.zero (a := z) (b := x) trivial trivial).1 hzx
        rcases List.mem_cons.1 hz with rfl | hz
        · exact e hxz
        · have := wCmp_ok.lt_le (a := x) (b := y) (c := z) trivial trivial trivial hlt ((List.pairwise_cons.1 h2).1 z hz)
          omega
    have hst : stepC (out ++ [x]) y = bif sameW x y then out ++ [y] else out ++ [x] ++ [y] := by
      unfold stepC
      rw [List.getLast?_concat, List.dropLast_concat]
    rw [List.foldl_cons, hst]
    conv => rhs; unfold keepF
    rw [hany]
    cases sameW x y
    · simp only [cond_false]
      rw [fold_keep l y (out ++ [x]) h2, List.append_assoc]
      rfl
    · simp only [cond_true]
      rw [fold_keep l y out h2]
theorem count_keep {l : List Rt} (h : rFaults l = 0) (at_ : Int) : countC l at_ = keepR at_ l := by
  rw [keep_filter]
  unfold countC
  have hs := (ratings_sorted h).filter (fun r => decide (rAt r ≤ at_))
  revert hs
  generalize l.filter (fun r => decide (rAt r ≤ at_)) = F
  intro hs
  cases F with
  | nil => rfl
  | cons x F => exact fold_keep F x [] hs
/-! ### package trust knows a score -/
def s36 : Option (Bool × Unit) := f36 s104 0
theorem h36 (y : Bool × Unit) (hw : WFs A36 ()) (h : s36 = some y) : ∃ k, f36 s104 k = some y := ⟨0, h⟩
theorem s36_true : s36 = some (true, ()) := by decide +kernel
/-! ### the order of people -/
def cO : Option Fr → Option Fr → Int
  | some x, some y => cmpI (y.1 * x.2.1) (x.1 * y.2.1)
  | some _, none => -1
  | none, some _ => 1
  | none, none => 0
def PosQ : Option Fr → Prop
  | some x => 0 ≤ x.1 ∧ 0 < x.2.1 ∧ x.1 ≤ 9223372036854775807 ∧ x.2.1 ≤ 9223372036854775807
  | none => True
theorem cmpI_le {a b : Int} : cmpI a b ≤ 0 ↔ a ≤ b := by
  unfold cmpI
  by_cases h : a < b
  · rw [if_pos h]; omega
  · rw [if_neg h]
    by_cases h2 : a > b
    · rw [if_pos h2]; omega
    · rw [if_neg h2]; omega
theorem cO_ok : CmpOK cO PosQ := by
  constructor
  · intro a b _ _
    cases a with
    | none => cases b with
      | none => exact (by decide : (0 : Int) < 0 ↔ (0 : Int) < 0)
      | some b => exact (by decide : (1 : Int) < 0 ↔ (0 : Int) < -1)
    | some a => cases b with
      | none => exact (by decide : (-1 : Int) < 0 ↔ (0 : Int) < 1)
      | some b => exact cmpI_ok.anti _ _ trivial trivial
  · intro a b c ha hb hc h1 h2
    cases a with
    | none =>
      cases b with
      | some b => exact absurd h1 (show ¬ (1 : Int) ≤ 0 from by decide)
      | none => cases c with
        | some c => exact absurd h2 (show ¬ (1 : Int) ≤ 0 from by decide)
        | none => exact (by decide : (0 : Int) ≤ 0)
    | some x =>
      cases c with
      | none => exact (by decide : (-1 : Int) ≤ 0)
      | some z =>
        cases b with
        | none => exact absurd h2 (show ¬ (1 : Int) ≤ 0 from by decide)
        | some y =>
          simp only [cO, cmpI_le] at h1 h2 ⊢
          obtain ⟨x0, x1, _, _⟩ := ha
          obtain ⟨y0, y1, _, _⟩ := hb
          obtain ⟨z0, z1, _, _⟩ := hc
          have k1 : z.1 * y.2.1 * x.2.1 ≤ y.1 * z.2.1 * x.2.1 := Int.mul_le_mul_of_nonneg_right h2 (by omega)
          have k2 : y.1 * x.2.1 * z.2.1 ≤ x.1 * y.2.1 * z.2.1 := Int.mul_le_mul_of_nonneg_right h1 (by omega)
          have e1 : z.1 * y.2.1 * x.2.1 = z.1 * x.2.1 * y.2.1 := by rw [Int.mul_assoc, Int.mul_comm y.2.1, ← Int.mul_assoc]
          have e2 : y.1 * z.2.1 * x.2.1 = y.1 * x.2.1 * z.2.1 := by rw [Int.mul_assoc, Int.mul_comm z.2.1, ← Int.mul_assoc]
          have e3 : x.1 * y.2.1 * z.2.1 = x.1 * z.2.1 * y.2.1 := by rw [Int.mul_assoc, Int.mul_comm y.2.1, ← Int.mul_assoc]
          rw [e1, e2] at k1
          rw [e3] at k2
          exact Int.le_of_mul_le_mul_right (Int.le_trans k1 k2) y1
def cmpR (S : ByteArray → Option Fr) : ByteArray → ByteArray → Int := lexC (fun a b => cO (S a) (S b)) cmpS
theorem cmpR_ok {S : ByteArray → Option Fr} (h : ∀ a, PosQ (S a)) : CmpOK (cmpR S) (fun _ => True) := ((cO_ok.on S).mono (fun a _ => h a)).lex cmpS_ok
theorem score_pos {f : Fa} (h : FaOK f) {C : List Rt} (hC : C.length ≤ 3000) (hs : ∀ r ∈ C, 1 ≤ rStars r ∧ rStars r ≤ 5) (at_ : Int) (who : ByteArray) : PosQ (scoreQ f C who at_) := by
  unfold scoreQ
  split
  · trivial
  · rename_i h0
    have ha := score_apt h hC hs who at_ h0
    have := frac_pos ha
    obtain ⟨_, _, _, _⟩ := ha
    exact ⟨by omega, by omega, by omega, by omega⟩
theorem wrap_u_id {n : Int} (h : 0 ≤ n) (h2 : n ≤ 9223372036854775807) : IntKind.u64.wrap n = n := by rw [wrap_u]; omega
/-- as the program compares -/
theorem prog_cmp {x y : Fr} (hx : PosQ (some x)) (hy : PosQ (some y)) : s200 y.1 x.2.1 x.1 y.2.1 = cO (some x) (some y) := by
  obtain ⟨x0, x1, x2, x3⟩ := hx
  obtain ⟨y0, y1, y2, y3⟩ := hy
  unfold s200
  rw [wrap_u_id y0 y2, wrap_u_id (by omega) x3, wrap_u_id x0 x2, wrap_u_id (by omega) y3]
  rfl
theorem ref_cmp {x y : Fr} (hx : PosQ (some x)) (hy : PosQ (some y)) : s207 y x = cO (some x) (some y) := prog_cmp hx hy
theorem score_ne {f : Fa} (h : FaOK f) {C : List Rt} (hC : C.length ≤ 3000) (hs : ∀ r ∈ C, 1 ≤ rStars r ∧ rStars r ≤ 5) (at_ : Int) {a b : ByteArray} {x y : Fr} (ha : scoreQ f C a at_ = some x) (hb : scoreQ f C b at_ = some y) (hc : cO (some x) (some y) = 0) : x = y := by
  unfold scoreQ at ha hb
  split at ha
  · cases ha
  rename_i a0
  split at hb
  · cases hb
  rename_i b0
  cases ha; cases hb
  have := cmpI_zero.1 hc
  exact frac_eq (score_apt h hC hs a at_ a0) (score_apt h hC hs b at_ b0) this.symm
theorem sortP_is {T : Ty} {cmpP : T.den → T.den → Option (Int × Unit)} {cmp : T.den → T.den → Int} {xs : List T.den} (h : ∀ x ∈ xs, ∀ y ∈ xs, cmpP x y = some (cmp x y, ())) : sortP T cmpP xs = sortF T cmp xs := by
  obtain ⟨c, h1, h2⟩ := sortP_of h
  rw [h1]
  exact sortF_congr (T := T) h2
end Go.Vm

/- RatingsScored: the law. Own work. -/
set_option linter.unusedVariables false
set_option linter.unusedSimpArgs false
namespace Go.Vm
open Go.RowKit Go.Vm.Gain
/-! ### the order of people, as the program has it -/
noncomputable def s105 (f : Fa) (l : List Rt) (whos : List ByteArray) (at_ : Int) : Option (List ByteArray × Int × Unit) :=
  if nz [rFaults l, fFault f, wFault whos 500] = 0 then
    if s121 at_ = true then (sortF .str (cmpR fun w => scoreQ f (countC l at_) w at_) whos).bind fun v => some (v, 0, ())
    else some ([], 1, ())
  else some ([], nz [rFaults l, fFault f, wFault whos 500], ())
theorem nz3z {a b c : Int} (h : nz [a, b, c] = 0) : a = 0 ∧ b = 0 ∧ c = 0 := by
  rw [nz_lex] at h
  split at h
  · split at h
    · exact ⟨by assumption, by assumption, h⟩
    · rename_i h1; exact absurd h h1
  · rename_i h1; exact absurd h h1
theorem who_len {l : List ByteArray} (h : wFault l 500 = 0) : l.length ≤ 500 := by
  unfold wFault at h
  split at h
  · cases h
  · omega
theorem cmpR_both {S : ByteArray → Option Fr} {a b : ByteArray} : cmpR S a b = match S a, S b with
    | some x, some y => if cO (some x) (some y) = 0 then cmpS a b else cO (some x) (some y)
    | some _, none => -1
    | none, some _ => 1
    | none, none => cmpS a b := by
  show (if cO (S a) (S b) = 0 then cmpS a b else cO (S a) (S b)) = _
  generalize S a = x
  generalize S b = y
  cases x <;> cases y <;> rfl
theorem h105 (f : Fa) (l : List Rt) (whos : List ByteArray) (at_ : Int) (y : List ByteArray × Int × Unit) (hw : WFs A105 (f, l, whos, at_, ())) (h : s105 f l whos at_ = some y) : ∃ k, f105 m28 s107 s121 s123 s124 s127 s129 s195 s200 s257 s258 k f l whos at_ = some y := by
  clear hw
  unfold s105 at h
  by_cases hz : nz [rFaults l, fFault f, wFault whos 500] = 0
  rotate_left
  · rw [if_neg hz] at h
    cases h
    refine ⟨0, ?_⟩
    unfold f105
    rw [show (s123 [s107 l, s195 f, s124 whos 500] != 0) = true from bne_iff_ne.2 hz]
    rfl
  rw [if_pos hz] at h
  obtain ⟨z1, z2, z3⟩ := nz3z hz
  by_cases ha : s121 at_ = true
  rotate_left
  · rw [if_neg ha] at h
    cases h
    refine ⟨0, ?_⟩
    unfold f105
    rw [show (s123 [s107 l, s195 f, s124 whos 500] != 0) = false from by rw [show s123 [s107 l, s195 f, s124 whos 500] = 0 from hz]; rfl, show s121 at_ = false from by rw [← Bool.not_eq_true]; exact ha]
    rfl
  rw [if_pos ha] at h
  have hlen := faults_len z1
  have hwl := who_len z3
  have hC := count_len l at_
  have hf := faith_ok z2
  have hfine := fine_all z1
  have hst : ∀ r ∈ countC l at_, 1 ≤ rStars r ∧ rStars r ≤ 5 := fun r hr => (hfine r (count_mem hr).1).stars
  have hnear : ∀ r ∈ countC l at_, Near f.2.2.1 at_ r := fun r hr => near_of hf hfine ha hr
  have e257 : s257 l at_ = some (countC l at_, ()) := by unfold s257; rw [if_pos hlen]
  have e28 : m28 whos = some whos := by unfold m28; rw [if_pos (by omega)]
  refine ⟨(countC l at_).length + 1, ?_⟩
  unfold f105
  rw [show (s123 [s107 l, s195 f, s124 whos 500] != 0) = false from by rw [show s123 [s107 l, s195 f, s124 whos 500] = 0 from hz]; rfl, ha, e257]
  simp only [Bool.not_true, cond_false, Option.bind_some]
  have hl : (countC l at_).length ≤ 9223372036854775807 := by omega
  rw [sums_iter f.2.2.1 at_ (countC l at_) ?h1 ?h2]
  case h2 => intro m1 m2; simp
  case h1 =>
    intro j x m1 m2 hx
    simp only [lt_at hx, inR_at hx, rd_at hx, wrap_succ hx hl, cond_true]
    rw [wt_join (hnear x (List.mem_of_getElem? hx))]
    rfl
  simp only [Option.bind_some, e28]
  refine (congrArg (fun q => Option.bind q _) (sortP_is (T := .str) (cmp := cmpR fun w => scoreQ f (countC l at_) w at_) (xs := whos) ?hc)).trans h
  intro a _ b _
  refine (congrArg (fun q : Option ((Int × Unit) ⊕ ((Fr × Bool × Unit) × Unit)) => Option.bind q _) (score_join hf (by omega) hst a at_ rfl)).trans ?_
  rw [Option.bind_some]
  refine (congrArg (fun q : Option ((Int × Unit) ⊕ ((Fr × Bool × Unit) × Unit)) => Option.bind q _) (score_join hf (by omega) hst b at_ rfl)).trans ?_
  rw [Option.bind_some]
  refine Eq.trans ?_ (congrArg (fun z : Int => some (z, ())) (cmpR_both (S := fun w => scoreQ f (countC l at_) w at_) (a := a) (b := b)).symm)
  have pa := score_pos hf (C := countC l at_) (by omega) hst at_ a
  have pb := score_pos hf (C := countC l at_) (by omega) hst at_ b
  simp only
  cases qa : scoreQ f (countC l at_) a at_ with
  | none => cases qb : scoreQ f (countC l at_) b at_ with
    | none => rfl
    | some y => rfl
  | some x => cases qb : scoreQ f (countC l at_) b at_ with
    | none => rfl
    | some y =>
      rw [qa] at pa
      rw [qb] at pb
      have e := prog_cmp pa pb
      show some (s127 [s200 y.1 x.2.1 x.1 y.2.1, s129 a b], ()) = _
      rw [e]
      unfold s127
      rw [nzp]
      rfl
/-! ### .. and as the reference has it -/
open Classical in
noncomputable def s111 (f : Fa) (l : List Rt) (whos : List ByteArray) (at_ : Int) : Option (List ByteArray × Unit) :=
  if RefOK f l at_ ∧ whos.length ≤ 500 then (sortF .str (cmpR fun w => scoreQ f (keepR at_ l) w at_) whos).bind fun v => some (v, ()) else none
theorem fr_beq (x y : Fr) : ((x.1 == y.1) && ((x.2.1 == y.2.1) && true)) = true ↔ x = y := by
  obtain ⟨a, b, ⟨⟩⟩ := x
  obtain ⟨c, d, ⟨⟩⟩ := y
  simp
theorem h111 (f : Fa) (l : List Rt) (whos : List ByteArray) (at_ : Int) (y : List ByteArray × Unit) (hw : WFs A111 (f, l, whos, at_, ())) (h : s111 f l whos at_ = some y) : ∃ k, f111 m28 s110 s129 s207 k f l whos at_ = some y := by
  clear hw
  unfold s111 at h
  split at h
  rotate_left
  · cases h
  rename_i hc
  obtain ⟨hok, hwl⟩ := hc
  have e28 : m28 whos = some whos := by unfold m28; rw [if_pos (by omega)]
  have e110 : ∀ w, s110 f l w at_ = some (outQ (scoreQ f (keepR at_ l) w at_)) := fun w => by unfold s110; rw [if_pos hok]
  obtain ⟨hf, hlen, hfine, ha⟩ := hok
  have hC : (keepR at_ l).length ≤ 3000 := Nat.le_trans (keep_len at_ l) hlen
  have hst : ∀ r ∈ keepR at_ l, 1 ≤ rStars r ∧ rStars r ≤ 5 := fun r hr => (hfine r (keep_mem hr).1).stars
  refine ⟨0, ?_⟩
  unfold f111
  rw [e28, Option.bind_some]
  refine (congrArg (fun q => Option.bind q _) (sortP_is (T := .str) (cmp := cmpR fun w => scoreQ f (keepR at_ l) w at_) (xs := whos) ?hc)).trans h
  intro a _ b _
  refine (congrArg (fun q => Option.bind q _) (e110 a)).trans ?_
  rw [Option.bind_some]
  refine (congrArg (fun q => Option.bind q _) (e110 b)).trans ?_
  rw [Option.bind_some]
  refine Eq.trans ?_ (congrArg (fun z : Int => some (z, ())) (cmpR_both (S := fun w => scoreQ f (keepR at_ l) w at_) (a := a) (b := b)).symm)
  have pa := score_pos hf hC hst at_ a
  have pb := score_pos hf hC hst at_ b
  cases qa : scoreQ f (keepR at_ l) a at_ with
  | none => cases qb : scoreQ f (keepR at_ l) b at_ with
    | none => rfl
    | some y => rfl
  | some x => cases qb : scoreQ f (keepR at_ l) b at_ with
    | none => rfl
    | some y =>
      rw [qa] at pa
      rw [qb] at pb
      have e := ref_cmp pa pb
      have hne := score_ne hf hC hst at_ qa qb
      show (bif (!((x.1 == y.1) && ((x.2.1 == y.2.1) && true))) then some (s207 y x, ()) else some (s129 a b, ())) = _
      rw [e]
      by_cases hxy : x = y
      · rw [(fr_beq x y).2 hxy]
        subst hxy
        have : cO (some x) (some x) = 0 := cmpI_zero.2 rfl
        simp only [this, if_true]
        rfl
      · have e1 : ((x.1 == y.1) && ((x.2.1 == y.2.1) && true)) = false := by rw [← Bool.not_eq_true]; exact fun e => hxy ((fr_beq x y).1 e)
        have e2 : cO (some x) (some y) ≠ 0 := fun e => hxy (hne e)
        rw [e1]
        simp only [e2, if_false]
        rfl
/-! ### the law -/
def s11 (f : Fa) (a b : List Rt) (who : ByteArray) (whos : List ByteArray) (at_ : Int) : Option (Bool × Unit) :=
  if a.length ≤ 4294967296 ∧ b.length ≤ 4294967296 ∧ whos.length ≤ 4294967296 then some (true, ()) else none
theorem merge_both {a b : List Rt} (za : rFaults a = 0) (zb : rFaults b = 0) : ∃ m e, s102 a b = some (m, e, ()) ∧ s109 a b = some (m, e, ()) := by
  have hla := faults_len za
  have hlb := faults_len zb
  refine ⟨(merged (dedup rtEq (stab (ltOf rCmp) (a ++ b)))).1, (merged (dedup rtEq (stab (ltOf rCmp) (a ++ b)))).2.1, ?_, ?_⟩
  · unfold s102
    rw [if_pos (by rw [za, zb]; rfl)]
  · unfold s109
    rw [if_pos ⟨by rw [List.length_append]; omega, fun x hx => (List.mem_append.1 hx).elim (fun h => (fine_all za x h).timed) (fun h => (fine_all zb x h).timed)⟩]
theorem ranked_both {f : Fa} {a : List Rt} {whos : List ByteArray} {at_ : Int} (za : rFaults a = 0) (zf : fFault f = 0) (zw : wFault whos 500 = 0) (ha : s121 at_ = true) (hw : ∀ w ∈ whos, w.size ≤ 9223372036854775807) :
    ∃ v, s105 f a whos at_ = some (v, 0, ()) ∧ s111 f a whos at_ = some (v, ()) := by
  have hlen := faults_len za
  have hf := faith_ok zf
  have hfine := fine_all za
  have hC : (keepR at_ a).length ≤ 3000 := Nat.le_trans (keep_len at_ a) hlen
  have hst : ∀ r ∈ keepR at_ a, 1 ≤ rStars r ∧ rStars r ≤ 5 := fun r hr => (hfine r (keep_mem hr).1).stars
  have hwl := who_len zw
  have hv : ∃ v : List ByteArray, sortF .str (cmpR fun w => scoreQ f (keepR at_ a) w at_) whos = some v ∧ v.Perm whos ∧ v.Pairwise fun x y => cmpR (fun w => scoreQ f (keepR at_ a) w at_) x y ≤ 0 :=
    sortF_total (T := .str) (fun x hx => hw x hx) (Nat.lt_of_le_of_lt hwl (by decide)) ((cmpR_ok (fun w => score_pos hf hC hst at_ w)).mono fun _ _ => trivial)
  obtain ⟨v, h1, _, _⟩ := hv
  refine ⟨v, ?_, ?_⟩
  · unfold s105
    rw [if_pos (by rw [za, zf, zw]; rfl), if_pos ha, count_keep za]
    exact (congrArg (fun q => Option.bind q _) h1).trans rfl
  · unfold s111
    rw [if_pos ⟨⟨hf, hlen, hfine, ha⟩, hwl⟩]
    exact (congrArg (fun q => Option.bind q _) h1).trans rfl
theorem score_both {f : Fa} {a : List Rt} {who : ByteArray} {at_ : Int} (za : rFaults a = 0) (zf : fFault f = 0) (hk : key who = true) (ha : s121 at_ = true) :
    ∃ q : Option Fr, s104 f a who at_ = some (match q with | none => ((0, 0, ()), 8, ()) | some q => (q, 0, ())) ∧ s110 f a who at_ = some (outQ q) := by
  refine ⟨scoreQ f (keepR at_ a) who at_, ?_, ?_⟩
  · unfold s104
    rw [if_pos (by rw [za, zf]; rfl), if_pos hk, if_pos ha, count_keep za]
    cases scoreQ f (keepR at_ a) who at_ <;> rfl
  · unfold s110
    rw [if_pos ⟨faith_ok zf, faults_len za, fine_all za, ha⟩]
theorem nz4z (a b c d : Int) : nz [a, b, c, d] = if a = 0 then (if b = 0 then (if c = 0 then d else c) else b) else a := by
  simp only [nz]
  by_cases ha : a = 0
  · by_cases hb : b = 0
    · by_cases hc : c = 0
      · by_cases hd : d = 0 <;> simp [ha, hb, hc, hd]
      · simp [ha, hb, hc]
    · simp [ha, hb]
  · simp [ha]
theorem h11 (f : Fa) (a b : List Rt) (who : ByteArray) (whos : List ByteArray) (at_ : Int) (y : Bool × Unit) (hw : WFs A11 (f, a, b, who, whos, at_, ())) (h : s11 f a b who whos at_ = some y) :
    ∃ k, f11 s20 s21 s28 s31 s32 s33 s36 s101 s102 s103 s104 s105 s106 s107 s108 s109 s110 s111 s112 k f a b who whos at_ = some y := by
  have hww : ∀ w ∈ whos, w.size ≤ 9223372036854775807 := fun w hm => by
    have := wf_all (T := .str) hw.2.2.2.2.1 w hm
    simpa only [WF] using this
  clear hw
  unfold s11 at h
  split at h
  rotate_left
  · cases h
  rename_i hl
  cases h
  refine ⟨0, ?_⟩
  unfold f11
  have ea : s103 a = some (a, ()) := by unfold s103; rw [if_pos hl.1]
  have eb : s103 b = some (b, ()) := by unfold s103; rw [if_pos hl.2.1]
  have ew : s28 whos = some (whos, ()) := by unfold s28; rw [if_pos hl.2.2]
  have hm : s32 at_ = bif s121 at_ then 0 else 1 := by unfold s32 s121 s21; cases s114 at_ 0 345686399999 <;> rfl
  have hk : s21 (!s31 who) 5 = bif key who then 0 else 5 := by
    show s21 (!key who) 5 = _
    cases key who <;> rfl
  -- the three calls, and what the reference has
  have hmer : ∃ m e, s102 a b = some (m, e, ()) ∧ e = (if rFaults a = 0 ∧ rFaults b = 0 then e else nz [rFaults a, rFaults b]) ∧ (if rFaults a = 0 ∧ rFaults b = 0 then s109 a b = some (m, e, ()) else m = []) := by
    by_cases hz : rFaults a = 0 ∧ rFaults b = 0
    · obtain ⟨m, e, h1, h2⟩ := merge_both hz.1 hz.2
      exact ⟨m, e, h1, by rw [if_pos hz], by rw [if_pos hz]; exact h2⟩
    · refine ⟨[], nz [rFaults a, rFaults b], ?_, by rw [if_neg hz], by rw [if_neg hz]⟩
      unfold s102
      rw [if_neg (fun e => hz (nz2 e))]
  have hsco : ∃ q e, s104 f a who at_ = some (q, e, ()) ∧ (if nz [rFaults a, fFault f, bif key who then 0 else 5, bif s121 at_ then 0 else 1] = 0 then ∃ z, s110 f a who at_ = some (z, e == 0, ()) ∧ (q = z) ∧ (e = 0 ∨ e = 8) else q = (0, 0, ()) ∧ e = nz [rFaults a, fFault f, bif key who then 0 else 5, bif s121 at_ then 0 else 1]) := by
    rw [nz4z]
    by_cases za : rFaults a = 0
    · by_cases zf : fFault f = 0
      · cases hkey : key who
        · refine ⟨(0, 0, ()), 5, ?_, ?_⟩
          · unfold s104
            rw [if_pos (by rw [za, zf]; rfl), if_neg (by simp [hkey])]
          · rw [if_pos za, if_pos zf]
            exact ⟨rfl, rfl⟩
        · cases hmom : s121 at_
          · refine ⟨(0, 0, ()), 1, ?_, ?_⟩
            · unfold s104
              rw [if_pos (by rw [za, zf]; rfl), if_pos hkey, if_neg (by simp [hmom])]
            · rw [if_pos za, if_pos zf]
              exact ⟨rfl, rfl⟩
          · obtain ⟨q, h1, h2⟩ := score_both za zf hkey hmom
            cases q with
            | none => exact ⟨_, _, h1, by rw [if_pos za, if_pos zf]; exact ⟨_, h2, rfl, .inr rfl⟩⟩
            | some q => exact ⟨_, _, h1, by rw [if_pos za, if_pos zf]; exact ⟨_, h2, rfl, .inl rfl⟩⟩
      · have hz : nz [rFaults a, fFault f] = fFault f := by rw [nzp, if_pos za]
        refine ⟨(0, 0, ()), fFault f, ?_, ?_⟩
        · unfold s104
          rw [hz, if_neg zf]
        · rw [if_pos za, if_neg zf, if_neg zf]
          exact ⟨rfl, rfl⟩
    · have hz : nz [rFaults a, fFault f] = rFaults a := by rw [nzp, if_neg za]
      refine ⟨(0, 0, ()), rFaults a, ?_, ?_⟩
      · unfold s104
        rw [hz, if_neg za]
      · rw [if_neg za, if_neg za]
        exact ⟨rfl, rfl⟩
  have hran : ∃ v e, s105 f a whos at_ = some (v, e, ()) ∧ e = nz [rFaults a, fFault f, wFault whos 500, bif s121 at_ then 0 else 1] ∧ (if e = 0 then s111 f a whos at_ = some (v, ()) else v = []) := by
    rw [nz4z]
    by_cases za : rFaults a = 0
    · by_cases zf : fFault f = 0
      · by_cases zw : wFault whos 500 = 0
        · cases hmom : s121 at_
          · refine ⟨[], 1, ?_, by rw [if_pos za, if_pos zf, if_pos zw]; rfl, by rw [if_neg (by decide)]⟩
            unfold s105
            rw [if_pos (by rw [za, zf, zw]; rfl), if_neg (by simp [hmom])]
          · obtain ⟨v, h1, h2⟩ := ranked_both za zf zw hmom hww
            exact ⟨v, 0, h1, by rw [if_pos za, if_pos zf, if_pos zw]; rfl, by rw [if_pos rfl]; exact h2⟩
        · have hz : nz [rFaults a, fFault f, wFault whos 500] = wFault whos 500 := by rw [nz_lex, if_pos za, if_pos zf]
          refine ⟨[], wFault whos 500, ?_, by rw [if_pos za, if_pos zf, if_neg zw], by rw [if_neg zw]⟩
          unfold s105
          rw [hz, if_neg zw]
      · have hz : nz [rFaults a, fFault f, wFault whos 500] = fFault f := by rw [nz_lex, if_pos za, if_neg zf]
        refine ⟨[], fFault f, ?_, by rw [if_pos za, if_neg zf], by rw [if_neg zf]⟩
        unfold s105
        rw [hz, if_neg zf]
    · have hz : nz [rFaults a, fFault f, wFault whos 500] = rFaults a := by rw [nz_lex, if_neg za]
      refine ⟨[], rFaults a, ?_, by rw [if_neg za], by rw [if_neg za]⟩
      unfold s105
      rw [hz, if_neg za]
  obtain ⟨m, e, h1, he1, h2⟩ := hmer
  obtain ⟨q, e', h3, h4⟩ := hsco
  obtain ⟨v, e'', h5, he5, h6⟩ := hran
  simp only [ea, eb, ew, Option.bind_some, h1, h3, h5, s36_true, show s20 = nz from rfl, show s106 = rFaults from rfl, show s107 = rFaults from rfl, show s108 = fFault from rfl, show s33 = wFault from rfl, hm, hk, bne_self_eq_false, cond_false]
  -- merge
  have j1 : (Option.bind (α := (Bool × Unit) ⊕ ((Int × List Rt × Unit) × Unit)) (bif (nz [rFaults a, rFaults b] == 0) then Option.bind (s109 a b) fun v10 => some (.inr ((v10.2.1, v10.1, ()), ())) else some (.inr ((nz [rFaults a, rFaults b], [], ()), ()))) fun r => some r) = some (.inr ((e, m, ()), ())) := by
    by_cases hz : rFaults a = 0 ∧ rFaults b = 0
    · rw [if_pos hz] at h2
      rw [show nz [rFaults a, rFaults b] = 0 from by rw [hz.1, hz.2]; rfl, h2]
      rfl
    · rw [if_neg hz] at h2 he1
      subst h2
      rw [he1, show (nz [rFaults a, rFaults b] == 0) = false from by rw [beq_eq_false_iff_ne]; exact fun e => hz (nz2 e)]
      rfl
  have j2 : (Option.bind (α := (Bool × Unit) ⊕ ((Int × Unit) × (Fr × Unit))) (bif (nz [rFaults a, fFault f, bif key who then 0 else 5, bif s121 at_ then 0 else 1] == 0) then Option.bind (s110 f a who at_) fun v12 => some (.inr ((s21 (!v12.2.1) 8, ()), (v12.1, ()))) else some (.inr ((nz [rFaults a, fFault f, bif key who then 0 else 5, bif s121 at_ then 0 else 1], ()), ((0, 0, ()), ())))) fun r => some r) = some (.inr ((e', ()), (q, ()))) := by
    by_cases hz : nz [rFaults a, fFault f, bif key who then 0 else 5, bif s121 at_ then 0 else 1] = 0
    · rw [if_pos hz] at h4
      obtain ⟨z, g1, rfl, g3⟩ := h4
      rw [hz, g1]
      rcases g3 with rfl | rfl <;> rfl
    · rw [if_neg hz] at h4
      obtain ⟨rfl, rfl⟩ := h4
      rw [show (nz [rFaults a, fFault f, bif key who then 0 else 5, bif s121 at_ then 0 else 1] == 0) = false from by rw [beq_eq_false_iff_ne]; exact hz]
      rfl
  have j3 : (Option.bind (α := (Bool × Unit) ⊕ ((List ByteArray × Unit) × Unit)) (bif (nz [rFaults a, fFault f, wFault whos 500, bif s121 at_ then 0 else 1] == 0) then Option.bind (s111 f a whos at_) fun v14 => some (.inr ((v14.1, ()), ())) else some (.inr (([], ()), ()))) fun r => some r) = some (.inr ((v, ()), ())) := by
    rw [← he5]
    by_cases hz : e'' = 0
    · rw [if_pos hz] at h6
      rw [hz, h6]
      rfl
    · rw [if_neg hz] at h6
      subst h6
      rw [show (e'' == 0) = false from by rw [beq_eq_false_iff_ne]; exact hz]
      rfl
  have bs : ∀ {α : Type} (x : Option α), (x.bind fun r => some r) = x := fun x => by cases x <;> rfl
  rw [bs] at j1 j2 j3
  refine (congrArg (fun q => Option.bind q _) j1).trans ?_
  rw [Option.bind_some]
  refine (congrArg (fun q => Option.bind q _) j2).trans ?_
  rw [Option.bind_some]
  refine (congrArg (fun q => Option.bind q _) j3).trans ?_
  rw [Option.bind_some]
  simp only [← he5, beq_self_eq_true, cond_true, s112, s101, decide_true, Bool.true_and, Bool.and_self, Option.bind_some]
end Go.Vm
