/- VehiclesReady: what was shown of common functions, under this seat's numbers (renum.py). Own work. -/
import Derived.Test.YtjkidhjkpkcnhaaGreatDoorVFn
import Derived.Test.YtjkidhjkpkcnhaaGreatDoorVSort
import Derived.Test.YtjkidhjkpkcnhaaGreatDoorVHand
import Derived.Test.YtjkidhjkpkcnhaaGreatDoorVmQ
import Derived.Test.YtjkidhjkpkcnhaaGreatDoorVmS
import Derived.Lib.Bytealg
set_option linter.unusedVariables false
set_option linter.unusedSimpArgs false
namespace Go.Vm
open Go.Proofs
end Go.Vm
/- Charging: what is gained, and how long it takes. Plain law. Own work. -/
namespace Go.Vm.Gain
/-- a / b rounded up -/
def cd (a b : Int) : Int := (a + b - 1).tdiv b
/-- how long it takes -/
def need (L S f g T : Int) : Int :=
  if L < S ∧ L < T then
    (if L + min (cd (S - L) f) (cd (T - L) f) * f < T then min (cd (S - L) f) (cd (T - L) f) + cd (T - (L + min (cd (S - L) f) (cd (T - L) f) * f)) g else min (cd (S - L) f) (cd (T - L) f))
  else (if L < T then 0 + cd (T - L) g else 0)
end Go.Vm.Gain

/- What the functions of BatteriesGain come to. Own work. -/
set_option linter.unusedVariables false
set_option linter.unusedSimpArgs false
namespace Go.Vm
open Go.RowKit
/-! ### small ones -/
def s74 (a b c : Int) : Bool := decide (a < b) || decide (a > c)
theorem h74 (a b c : Int) (hw : WFs A74 (a, b, c, ())) : ∃ k, f74 k a b c = some (s74 a b c, ()) := by
  refine ⟨0, ?_⟩
  unfold f74 s74
  cases decide (a < b) <;> rfl
def s71 (a b c : Int) : Bool := decide (b ≤ a) && decide (a ≤ c)
theorem h71 (a b c : Int) (hw : WFs A71 (a, b, c, ())) : ∃ k, f71 k a b c = some (s71 a b c, ()) := by
  refine ⟨0, ?_⟩
  unfold f71 s71
  cases decide (b ≤ a) <;> rfl
theorem in_out (a b c : Int) : s71 a b c = !s74 a b c := by
  unfold s71 s74
  by_cases h : b ≤ a <;> by_cases h2 : a ≤ c <;> simp [h, h2] <;> omega
def s132 (a : Int) : Bool := false
theorem h132 (a : Int) (hw : WFs A132 (a, ())) : ∃ k, f132 k a = some (s132 a, ()) := by
  refine ⟨0, ?_⟩
  unfold f132 s132
  simp
def s67 (a b : Int) : Int := if a < b then -1 else if a > b then 1 else 0
theorem h67 (a b : Int) (hw : WFs A67 (a, b, ())) : ∃ k, f67 s132 k a b = some (s67 a b, ()) := by
  refine ⟨0, ?_⟩
  unfold f67 s67 s132
  simp only [cond_false]
  by_cases h : a < b
  · simp [h]
  · by_cases h2 : a > b <;> simp [h, h2]
def s35 (b : Bool) (e : Int) : Int := if b then e else 0
theorem h35 (b : Bool) (e : Int) (hw : WFs A35 (b, e, ())) : ∃ k, f35 k b e = some (s35 b e, ()) := by
  refine ⟨0, ?_⟩
  unfold f35 s35
  cases b <;> rfl
/-! ### the first that is not 0 -/
def nz : List Int → Int
  | [] => 0
  | x :: l => if x = 0 then nz l else x
def nzBody (x : Int) : Unit ⊕ ((Int × Unit) ⊕ (Unit × Unit)) := bif x != 0 then .inr (.inl (x, ())) else .inl ()
theorem nz_scan : ∀ (l : List Int) (j : Nat), (match scan (β := Unit) (fun _ x _ => nzBody x) (fun _ => .inr ((), ())) l j () with | .inl z => some z | .inr _ => some ((0 : Int), ())) = some (nz l, ())
  | [], j => rfl
  | x :: l, j => by
    by_cases h : x = 0
    · subst h
      simp only [scan, nzBody, nz, bne_self_eq_false, cond_false, if_true]
      exact nz_scan l (j + 1)
    · have : (x != 0) = true := by simpa using h
      simp only [scan, nzBody, nz, this, cond_true, h, if_false]
theorem h18 (l : List Int) (hw : WFs A18 (l, ())) : ∃ k, f18 k l = some (nz l, ()) := by
  simp only [WFs, WF] at hw
  refine ⟨l.length + 1, ?_⟩
  unfold f18
  rw [iter_scan0 (β := Unit) l (fun j _ => (((j : Int), ()), ())) (fun _ x _ => nzBody x) (fun _ => .inr ((), ())) () ?hs ?hk ?h1 ?h2]
  · exact nz_scan l 0
  case hs => rfl
  case hk => exact Nat.lt_succ_self _
  · intro j x b hx
    simp only [lt_at hx, inR_at hx, rd_at hx, wrap_succ hx hw.1.1, cond_true, nzBody]
    cases (x != 0) <;> rfl
  · intro b
    simp
def s18 (l : List Int) : Int := nz l
def s69 (l : List Int) : Int := nz l
def s66 (l : List Int) : Int := nz l
theorem h69 (l : List Int) (hw : WFs A69 (l, ())) : ∃ k, f69 k l = some (s69 l, ()) := h18 l hw
theorem h66 (l : List Int) (hw : WFs A66 (l, ())) : ∃ k, f66 k l = some (s66 l, ()) := h18 l hw
/-! ### keys -/
def okc (b : UInt8) : Bool := (decide (97 ≤ b.toNat) && decide (b.toNat ≤ 122)) || (decide (48 ≤ b.toNat) && decide (b.toNat ≤ 57)) || b.toNat == 45 || b.toNat == 95
def lower (b : UInt8) : Bool := decide (97 ≤ b.toNat) && decide (b.toNat ≤ 122)
def keyL (l : List UInt8) : Bool := decide (1 ≤ l.length) && decide (l.length ≤ 40) && lower (l.headD 0) && l.all okc
def key (s : ByteArray) : Bool := keyL s.data.toList
theorem size_list (s : ByteArray) : s.size = s.data.toList.length := by rw [Array.length_toList]; rfl
theorem bt_at {s : ByteArray} {j : Nat} {b : UInt8} (h : s.data.toList[j]? = some b) : bt s (j : Int) = (b.toNat : Int) := by
  unfold bt
  have : s.data.getD j 0 = b := by
    rw [Array.getD_eq_getD_getElem?, ← Array.getElem?_toList, h]; rfl
  simp only [Int.toNat_natCast, this]
def allBody (b : UInt8) : Unit ⊕ ((Bool × Unit) ⊕ (Unit × Unit)) := bif okc b then .inl () else .inr (.inl (false, ()))
theorem all_scan (p : UInt8 → Bool) (body : UInt8 → Unit ⊕ ((Bool × Unit) ⊕ (Unit × Unit))) (hb : ∀ b, body b = bif p b then .inl () else .inr (.inl (false, ()))) : ∀ (l : List UInt8) (j : Nat), (match scan (β := Unit) (fun _ x _ => body x) (fun _ => .inr ((), ())) l j () with | .inl z => some z | .inr _ => some (true, ())) = some (l.all p, ())
  | [], j => rfl
  | x :: l, j => by
    simp only [scan, hb, List.all_cons]
    cases p x
    · rfl
    · simp only [cond_true, Bool.true_and]
      have := all_scan p body hb l (j + 1)
      simp only [hb] at this
      exact this
theorem h94 (s t : ByteArray) (hw : WFs A94 (s, t, ())) : ∃ k, f94 (fun s c => Lib.indexByte s.data.toList c.toNat.toUInt8) k s t = some (s.data.toList.all (fun b => t.data.toList.contains b), ()) := by
  simp only [WFs, WF] at hw
  refine ⟨s.data.toList.length + 1, ?_⟩
  unfold f94
  rw [iter_scan0 (β := Unit) s.data.toList (fun j _ => (((j : Int), ()), ())) (fun _ x _ => bif t.data.toList.contains x then .inl () else .inr (.inl (false, ()))) (fun _ => .inr ((), ())) () ?hs ?hk ?h1 ?h2]
  · exact all_scan _ _ (fun b => rfl) _ 0
  case hs => rfl
  case hk => exact Nat.lt_succ_self _
  · intro j x b hx
    have hs : s.data.toList.length ≤ 9223372036854775807 := by rw [← size_list]; exact hw.1
    simp only [size_list, lt_at hx, inR_at hx, bt_at hx, wrap_succ hx hs, cond_true]
    have : decide (Lib.indexByte t.data.toList (x.toNat : Int).toNat.toUInt8 < 0) = !t.data.toList.contains x := by
      have e : (x.toNat : Int).toNat.toUInt8 = x := by simp
      rw [e]
      generalize t.data.toList = l
      induction l with
      | nil => rfl
      | cons y l ih =>
        unfold Lib.indexByte
        have hge := Lib.indexByte_ge l x
        by_cases hyx : y = x
        · subst hyx; simp
        · have h1 : (y == x) = false := by simpa using hyx
          have h2 : (x == y) = false := by simpa using (fun h => hyx h.symm)
          simp only [h1, Bool.false_eq_true, if_false, List.contains_cons, h2, Bool.false_or]
          rw [← ih]
          by_cases h3 : Lib.indexByte l x = -1
          · simp [h3]
          · have : (Lib.indexByte l x == -1) = false := by simpa using h3
            simp only [this, Bool.false_eq_true, if_false]
            congr 1
            apply propext
            omega
    rw [this]
    cases t.data.toList.contains x <;> rfl
  · intro b
    rw [size_list]
    simp
def s145 (s : ByteArray) (c : Int) : Int := Lib.indexByte s.data.toList c.toNat.toUInt8
def s94 (s t : ByteArray) : Bool := s.data.toList.all (fun b => t.data.toList.contains b)
theorem h145 (s : ByteArray) (c : Int) (hw : WFs A145 (s, c, ())) : ∃ k, f145 s182 k s c = some (s145 s c, ()) := ⟨0, rfl⟩
def s75 (s : ByteArray) : Bool := key s
def s36 (s : ByteArray) : Bool := key s
theorem sEq_empty (s : ByteArray) : sEq s (ByteArray.mk #[]) = s.data.toList.isEmpty := by
  unfold sEq
  rw [ByteArray.toList_eq, ByteArray.toList_eq]
  cases s.data.toList <;> rfl
theorem all256 {p : UInt8 → Bool} (h : ∀ n : Fin 256, p (UInt8.ofNat n.1) = true) (b : UInt8) : p b = true := by
  have := h ⟨b.toNat, b.toNat_lt⟩
  simpa using this
theorem smalls_ok : ∀ b : UInt8, (([97, 98, 99, 100, 101, 102, 103, 104, 105, 106, 107, 108, 109, 110, 111, 112, 113, 114, 115, 116, 117, 118, 119, 120, 121, 122] : List UInt8).contains b == lower b) = true := all256 (by decide +kernel)
theorem chars_ok : ∀ b : UInt8, (([97, 98, 99, 100, 101, 102, 103, 104, 105, 106, 107, 108, 109, 110, 111, 112, 113, 114, 115, 116, 117, 118, 119, 120, 121, 122, 48, 49, 50, 51, 52, 53, 54, 55, 56, 57, 45, 95] : List UInt8).contains b == okc b) = true := all256 (by decide +kernel)
theorem h36 (s : ByteArray) (hw : WFs A36 (s, ())) : ∃ k, f36 s71 s94 k s = some (s36 s, ()) := by
  refine ⟨0, ?_⟩
  unfold f36 s36 key keyL s71 s94
  rw [size_list]
  have he : (s.extract (Int.toNat 0) (Int.toNat 1)).data.toList = s.data.toList.take 1 := by simp [ByteArray.data_extract]
  simp only [he]
  generalize s.data.toList = l
  have e1 : (fun b => ([97, 98, 99, 100, 101, 102, 103, 104, 105, 106, 107, 108, 109, 110, 111, 112, 113, 114, 115, 116, 117, 118, 119, 120, 121, 122] : List UInt8).contains b) = lower := funext fun b => by simpa using smalls_ok b
  have e2 : (fun b => ([97, 98, 99, 100, 101, 102, 103, 104, 105, 106, 107, 108, 109, 110, 111, 112, 113, 114, 115, 116, 117, 118, 119, 120, 121, 122, 48, 49, 50, 51, 52, 53, 54, 55, 56, 57, 45, 95] : List UInt8).contains b) = okc := funext fun b => by simpa using chars_ok b
  simp only [e1, e2]
  cases l with
  | nil => rfl
  | cons b l =>
    have h1 : decide ((1 : Int) ≤ ((b :: l).length : Int)) = true := by simp; omega
    have h2 : decide ((((b :: l).length : Nat) : Int) ≤ 40) = decide ((b :: l).length ≤ 40) := by congr 1; apply propext; omega
    have h3 : decide (1 ≤ (b :: l).length) = true := by simp
    simp only [h1, h2, h3, Bool.true_and]
    cases decide ((b :: l).length ≤ 40)
    · rfl
    · simp only [cond_true, Int.le_refl, decide_true, Bool.true_and, show decide ((0 : Int) ≤ 1) = true from rfl, List.take_succ_cons, List.take_zero, List.all_cons, List.all_nil, Bool.and_true, List.headD_cons]
      cases lower b <;> rfl
theorem h75 (s : ByteArray) (hw : WFs A75 (s, ())) : ∃ k, f75 k s = some (s75 s, ()) := by
  simp only [WFs, WF] at hw
  refine ⟨s.data.toList.length + 1, ?_⟩
  unfold f75 s75 key keyL
  rw [sEq_empty]
  cases hl : s.data.toList with
  | nil => rfl
  | cons b l =>
    have h0 : s.data.toList[0]? = some b := by rw [hl]; rfl
    have hb : bt s (0 : Int) = (b.toNat : Int) := bt_at h0
    have hin : inR (0 : Int) (s.size : Int) = true := by
      have := inR_at h0
      rw [← size_list] at this
      exact this
    rw [← hl]
    have hne : (s.data.toList).isEmpty = false := by rw [hl]; rfl
    have h1 : decide (1 ≤ s.data.toList.length) = true := by rw [hl]; simp
    have hh : s.data.toList.headD 0 = b := by rw [hl]; rfl
    have h2 : decide (((s.size : Nat) : Int) > 40) = !decide (s.data.toList.length ≤ 40) := by
      rw [size_list, ← decide_not]
      congr 1; apply propext; omega
    simp only [hne, h1, hh, h2, hin, hb, cond_false, cond_true, Bool.true_and]
    cases decide (s.data.toList.length ≤ 40)
    · rfl
    · simp only [Bool.not_true, cond_false, Bool.true_and]
      unfold lower
      have e1 : decide ((b.toNat : Int) < 97) = !decide (97 ≤ b.toNat) := by by_cases h : 97 ≤ b.toNat <;> simp [h] <;> omega
      have e2 : decide ((b.toNat : Int) > 122) = !decide (b.toNat ≤ 122) := by by_cases h : b.toNat ≤ 122 <;> simp [h] <;> omega
      rw [e1, e2]
      cases decide (97 ≤ b.toNat)
      · rfl
      · cases decide (b.toNat ≤ 122)
        · rfl
        · simp only [Bool.not_true, cond_false, Bool.true_and]
          rw [iter_scan0 (β := Unit) s.data.toList (fun j _ => (((j : Int), ()), ())) (fun _ x _ => allBody x) (fun _ => .inr ((), ())) () ?hs ?hk ?h1 ?h2]
          case hs => rfl
          case hk => exact Nat.lt_succ_self _
          · exact all_scan _ _ (fun b => rfl) _ 0
          · intro j x b hx
            have hs : s.data.toList.length ≤ 9223372036854775807 := by rw [← size_list]; exact hw.1
            simp only [size_list, lt_at hx, inR_at hx, bt_at hx, wrap_succ hx hs, cond_true]
            unfold allBody okc
            have a1 : decide ((x.toNat : Int) ≥ 97) = decide (97 ≤ x.toNat) := by congr 1; apply propext; omega
            have a2 : decide ((x.toNat : Int) ≤ 122) = decide (x.toNat ≤ 122) := by congr 1; apply propext; omega
            have a3 : decide ((x.toNat : Int) ≥ 48) = decide (48 ≤ x.toNat) := by congr 1; apply propext; omega
            have a4 : decide ((x.toNat : Int) ≤ 57) = decide (x.toNat ≤ 57) := by congr 1; apply propext; omega
            have a5 : ((x.toNat : Int) == 45) = (x.toNat == 45) := by rw [Bool.eq_iff_iff]; simp only [beq_iff_eq]; omega
            have a6 : ((x.toNat : Int) == 95) = (x.toNat == 95) := by rw [Bool.eq_iff_iff]; simp only [beq_iff_eq]; omega
            rw [a1, a2, a3, a4, a5, a6]
            cases decide (97 ≤ x.toNat) <;> cases decide (x.toNat ≤ 122) <;> cases decide (48 ≤ x.toNat) <;> cases decide (x.toNat ≤ 57) <;> cases (x.toNat == 45) <;> cases (x.toNat == 95) <;> rfl
          · intro b
            rw [size_list]
            simp
end Go.Vm

/- Lists that are checked. Own work. -/
set_option linter.unusedVariables false
set_option linter.unusedSimpArgs false
namespace Go.Vm
open Go.RowKit
def leS (a b : ByteArray) : Bool := sLt a b || sEq a b
/-- what is wrong with a list in the order of its keys -/
def chk {α : Type} (kf : α → ByteArray) (φ : α → Int) : Option ByteArray → List α → Int
  | _, [] => 0
  | p, x :: l => bif !key (kf x) then 5 else bif (match p with | none => false | some q => leS (kf x) q) then 7 else bif φ x != 0 then φ x else chk kf φ (some (kf x)) l
def prevK {α : Type} (kf : α → ByteArray) (xs : List α) (j : Nat) : Option ByteArray := if j = 0 then none else (xs[j - 1]?).map kf
def chkBody {α : Type} (kf : α → ByteArray) (φ : α → Int) (xs : List α) (j : Nat) (x : α) (_ : Unit) : Unit ⊕ ((Int × Unit) ⊕ (Unit × Unit)) :=
  bif !key (kf x) then .inr (.inl (5, ())) else bif (match prevK kf xs j with | none => false | some q => leS (kf x) q) then .inr (.inl (7, ())) else bif φ x != 0 then .inr (.inl (φ x, ())) else .inl ()
theorem chk_scan {α : Type} (kf : α → ByteArray) (φ : α → Int) (xs : List α) : ∀ (l : List α) (j : Nat), xs.drop j = l →
    (match scan (chkBody kf φ xs) (fun _ => .inr ((), ())) l j () with | .inl z => some z | .inr _ => some ((0 : Int), ())) = some (chk kf φ (prevK kf xs j) l, ())
  | [], j, hl => rfl
  | x :: l, j, hl => by
    have hx : xs[j]? = some x := by rw [← List.head?_drop, hl]; rfl
    have hl' : xs.drop (j + 1) = l := by rw [← List.drop_drop, hl]; rfl
    simp only [scan, chk, chkBody]
    cases !key (kf x)
    · simp only [cond_false]
      generalize (match prevK kf xs j with | none => false | some q => leS (kf x) q) = b
      cases b
      · simp only [cond_false]
        cases φ x != 0
        · simp only [cond_false]
          have := chk_scan kf φ xs l (j + 1) hl'
          have hp : prevK kf xs (j + 1) = some (kf x) := by simp [prevK, hx]
          rw [hp] at this
          exact this
        · rfl
      · rfl
    · rfl
/-- .. as the reference goes: with the last key -/
def chkLast {α : Type} (kf : α → ByteArray) (φ : α → Int) : ByteArray → List α → Int
  | _, [] => 0
  | p, x :: l => bif !key (kf x) then 5 else bif leS (kf x) p then 7 else bif φ x != 0 then φ x else chkLast kf φ (kf x) l
theorem chkLast_eq {α : Type} (kf : α → ByteArray) (φ : α → Int) : ∀ (l : List α) (p : ByteArray), chkLast kf φ p l = chk kf φ (some p) l
  | [], p => rfl
  | x :: l, p => by simp only [chkLast, chk, chkLast_eq kf φ l]
theorem leS_empty {s : ByteArray} (h : key s = true) : leS s (ByteArray.mk #[]) = false := by
  unfold leS
  rw [sEq_empty]
  unfold sLt
  rw [ByteArray.toList_eq, ByteArray.toList_eq]
  unfold key keyL at h
  cases hl : s.data.toList with
  | nil => rw [hl] at h; simp at h
  | cons b l => rfl
theorem chkLast_first {α : Type} (kf : α → ByteArray) (φ : α → Int) (l : List α) : chkLast kf φ (ByteArray.mk #[]) l = chk kf φ none l := by
  cases l with
  | nil => rfl
  | cons x l =>
    simp only [chkLast, chk]
    cases hk : key (kf x)
    · rfl
    · simp only [leS_empty hk, Bool.not_true, cond_false, chkLast_eq]
def lastBody {α : Type} (kf : α → ByteArray) (φ : α → Int) (_ : Nat) (x : α) (p : ByteArray) : ByteArray ⊕ ((Int × Unit) ⊕ (Unit × Unit)) :=
  bif !key (kf x) then .inr (.inl (5, ())) else bif leS (kf x) p then .inr (.inl (7, ())) else bif φ x != 0 then .inr (.inl (φ x, ())) else .inl (kf x)
theorem last_scan {α : Type} (kf : α → ByteArray) (φ : α → Int) : ∀ (l : List α) (j : Nat) (p : ByteArray),
    (match scan (lastBody kf φ) (fun _ => .inr ((), ())) l j p with | .inl z => some z | .inr _ => some ((0 : Int), ())) = some (chkLast kf φ p l, ())
  | [], j, p => rfl
  | x :: l, j, p => by
    simp only [scan, chkLast, lastBody]
    cases !key (kf x)
    · simp only [cond_false]
      cases leS (kf x) p
      · simp only [cond_false]
        cases φ x != 0
        · exact last_scan kf φ l (j + 1) (kf x)
        · rfl
      · rfl
    · rfl
theorem prev_at {α : Type} {xs : List α} {j : Nat} {x : α} (h : xs[j]? = some x) (hl : xs.length ≤ 9223372036854775807) (hj : j ≠ 0) : ∃ y, xs[j - 1]? = some y ∧ IntKind.i64.wrap ((j : Int) - 1) = ((j - 1 : Nat) : Int) := by
  have := (List.getElem?_eq_some_iff.1 h).1
  refine ⟨xs[j - 1], List.getElem?_eq_getElem (by omega), ?_⟩
  rw [wrap_ok (by omega) (by omega)]; omega
/-! ### vehicles, places -/
abbrev Veh := ByteArray × Int × Int × Int × Int × Unit
def vehBad (v : Veh) : Int := bif s74 v.2.1 1 1000000 then 1 else bif s74 v.2.2.1 0 v.2.1 then 1 else bif s74 v.2.2.2.1 1 1000000 then 1 else bif s74 v.2.2.2.2.1 0 1000 then 1 else 0
def vehsFault (l : List Veh) : Int := if l.length > 200 then 2 else chk (·.1) vehBad none l
theorem len_gt {α : Type} (l : List α) (n : Nat) : decide ((l.length : Int) > (n : Int)) = decide (l.length > n) := by congr 1; apply propext; omega
def s87 := vehsFault
def s38 := vehsFault
theorem h87 (l : List Veh) (hw : WFs A87 (l, ())) : ∃ k, f87 s74 s75 k l = some (s87 l, ()) := by
  simp only [WFs, WF] at hw
  have hl := hw.1.1
  refine ⟨l.length + 1, ?_⟩
  unfold f87 s87 vehsFault
  rw [show (200 : Int) = ((200 : Nat) : Int) from rfl, len_gt]
  by_cases hn : l.length > 200
  · simp [hn]
  · simp only [hn, decide_false, cond_false, if_false]
    rw [iter_scan0 (β := Unit) l (fun j _ => (((j : Int), ()), ())) (chkBody (·.1) vehBad l) (fun _ => .inr ((), ())) () ?hs ?hk ?h1 ?h2]
    case hs => rfl
    case hk => exact Nat.lt_succ_self _
    · exact chk_scan (·.1) vehBad l l 0 rfl
    · intro j x b hx
      simp only [lt_at hx, inR_at hx, rd_at hx, wrap_succ hx hl, cond_true, chkBody, s75]
      cases !key x.1
      · simp only [cond_false]
        by_cases hj : j = 0
        · subst hj
          have : decide (((0 : Nat) : Int) > 0) = false := by decide
          simp only [this, cond_false, Option.bind_some, prevK, if_true, vehBad]
          cases s74 x.2.1 1 1000000 <;> cases s74 x.2.2.1 0 x.2.1 <;> cases s74 x.2.2.2.1 1 1000000 <;> cases s74 x.2.2.2.2.1 0 1000 <;> rfl
        · obtain ⟨y, hy, hwr⟩ := prev_at hx hl hj
          have : decide ((j : Int) > 0) = true := by simp; omega
          simp only [this, cond_true, hwr, inR_at hy, rd_at hy, Option.bind_some, prevK, hj, if_false, hy, Option.map_some, leS]
          cases (sLt x.1 y.1 || sEq x.1 y.1)
          · simp only [cond_false, vehBad]
            cases s74 x.2.1 1 1000000 <;> cases s74 x.2.2.1 0 x.2.1 <;> cases s74 x.2.2.2.1 1 1000000 <;> cases s74 x.2.2.2.2.1 0 1000 <;> rfl
          · rfl
      · rfl
    · intro b
      simp
theorem h38 (l : List Veh) (hw : WFs A38 (l, ())) : ∃ k, f38 s36 s71 k l = some (s38 l, ()) := by
  simp only [WFs, WF] at hw
  have hl := hw.1.1
  refine ⟨l.length + 1, ?_⟩
  unfold f38 s38 vehsFault
  rw [show (200 : Int) = ((200 : Nat) : Int) from rfl, len_gt]
  by_cases hn : l.length > 200
  · simp [hn]
  · simp only [hn, decide_false, cond_false, if_false]
    rw [iter_scan0 (β := ByteArray) l (fun j b => ((b, (j : Int), ()), ())) (lastBody (·.1) vehBad) (fun _ => .inr ((), ())) (ByteArray.mk #[]) ?hs ?hk ?h1 ?h2]
    case hs => rfl
    case hk => exact Nat.lt_succ_self _
    · rw [← chkLast_first]
      exact last_scan (·.1) vehBad l 0 _
    · intro j x b hx
      simp only [lt_at hx, inR_at hx, rd_at hx, wrap_succ hx hl, cond_true, lastBody, s36, in_out, leS]
      cases !key x.1
      · simp only [cond_false]
        cases (sLt x.1 b || sEq x.1 b)
        · simp only [cond_false, vehBad]
          cases s74 x.2.1 1 1000000 <;> cases s74 x.2.2.1 0 x.2.1 <;> cases s74 x.2.2.2.1 1 1000000 <;> cases s74 x.2.2.2.2.1 0 1000 <;> rfl
        · rfl
      · rfl
    · intro b
      simp
end Go.Vm

/- What is gained, as the reference reckons it. Own work. -/
set_option linter.unusedVariables false
set_option linter.unusedSimpArgs false
namespace Go.Vm
open Go.RowKit Go.Vm.Gain
end Go.Vm

/- Shifts: what is wrong with them, and whose each one is. Own work. -/
set_option linter.unusedVariables false
set_option linter.unusedSimpArgs false
namespace Go.Vm
open Go.RowKit Go.Vm.Gain
abbrev Wd := Int × Int × Unit
def s189 (a b : Wd) : Int := nz [s67 a.1 b.1, s67 a.2.1 b.2.1]
theorem h189 (a b : Wd) (hw : WFs A189 (a, b, ())) : ∃ k, f189 s66 s67 k a b = some (s189 a b, ()) := ⟨0, rfl⟩
def shBad (w : Wd) : Bool := decide (w.1 < 0) || (decide (w.1 ≥ w.2.1) || decide (w.2.1 > 345686400000))
def shB (w : Wd) (p : Option Wd) : Option Wd ⊕ ((Int × Unit) ⊕ (Unit × Unit)) :=
  bif shBad w then .inr (.inl (1, ())) else match p with
    | none => .inl (some w)
    | some o => bif decide (s189 w o < 0) then .inr (.inl (7, ())) else .inl (some w)
def shiftsFault (l : List Wd) : Int := if l.length > 500 then 2 else out1 (scan (fun _ => shB) (fun _ => .inr ((), ())) l 0 none)
def SJ (xs : List Wd) (j : Nat) (p : Option Wd) : Prop := (j = 0 ∧ p = none) ∨ ∃ o, 0 < j ∧ xs[j - 1]? = some o ∧ p = some o
theorem shB_next {x : Wd} {b b' : Option Wd} (h : shB x b = .inl b') : shBad x = false ∧ b' = some x ∧ ∀ o, b = some o → ¬ s189 x o < 0 := by
  unfold shB at h
  cases hb : shBad x <;> rw [hb] at h
  · refine ⟨rfl, ?_⟩
    cases b with
    | none => simp only [cond_false, Sum.inl.injEq] at h; exact ⟨h.symm, fun o h => by cases h⟩
    | some o =>
      simp only [cond_false] at h
      cases h2 : decide (s189 x o < 0) <;> rw [h2] at h
      · simp only [cond_false, Sum.inl.injEq] at h
        exact ⟨h.symm, fun o' ho => by cases ho; exact of_decide_eq_false h2⟩
      · cases h
  · cases h
theorem SJ_next {xs : List Wd} (j : Nat) (x : Wd) (b b' : Option Wd) (hx : xs[j]? = some x) (h : shB x b = .inl b') : SJ xs (j + 1) b' :=
  .inr ⟨x, by omega, hx, (shB_next h).2.1⟩
def s152 (l : List Wd) : Option (Int × Unit) := some (shiftsFault l, ())
theorem h152 (l : List Wd) (y : Int × Unit) (hw : WFs A152 (l, ())) (h : s152 l = some y) : ∃ k, f152 s189 k l = some y := by
  cases h
  simp only [WFs, WF] at hw
  have hl := hw.1.1
  refine ⟨l.length + 1, ?_⟩
  unfold f152 shiftsFault
  rw [show (500 : Int) = ((500 : Nat) : Int) from rfl, len_gt]
  by_cases hn : l.length > 500
  · simp [hn]
  · simp only [hn, decide_false, cond_false, if_false]
    rw [iter_scanI (β := Option Wd) l (fun j _ => (((j : Int), ()), ())) (fun _ => shB) (fun _ => .inr ((), ())) (SJ l) none ?hb ?hs ?hk ?hJ ?h1 ?h2]
    · exact out1_bind _
    case hb => exact .inl ⟨rfl, rfl⟩
    case hs => rfl
    case hk => exact Nat.lt_succ_self _
    · intro j x b b' hx _ h
      exact SJ_next j x b b' hx h
    · intro j x b hx hJ
      simp only [lt_at hx, inR_at hx, rd_at hx, wrap_succ hx hl, cond_true]
      unfold shB shBad
      cases h1 : decide (x.1 < 0)
      · cases h2 : decide (x.1 ≥ x.2.1)
        · cases h3 : decide (x.2.1 > 345686400000)
          · simp only [cond_false, Bool.or_false]
            rcases hJ with ⟨rfl, rfl⟩ | ⟨o, hj, ho, rfl⟩
            · rfl
            · have e0 : decide (((j : Nat) : Int) > 0) = true := by simp; omega
              simp only [e0, prev_ix hl hj ho, inR_at ho, rd_at ho, cond_true]
              cases decide (s189 x o < 0) <;> rfl
          · rfl
        · rfl
      · rfl
    · intro b _
      simp
/-! ### whose each shift is -/
/-- when each driver is free; whose each shift is -/
def rostStep (w : Wd) (b : List Int × List Int) : List Int × List Int :=
  match b.1.findIdx? (fun f => decide (f ≤ w.1)) with
  | some k => (b.1.set k w.2.1, b.2 ++ [(k : Int)])
  | none => (b.1 ++ [w.2.1], b.2 ++ [(b.1.length : Int)])
def rost (l : List Wd) : List Int × List Int := l.foldl (fun b w => rostStep w b) ([], [])
def s153 (l : List Wd) : Option (List Int × Int × Unit) := if l.length ≤ 4294967296 then some ((rost l).2, ((rost l).1.length : Int), ()) else none
theorem h153 (l : List Wd) (y : List Int × Int × Unit) (hw : WFs A153 (l, ())) (h : s153 l = some y) : ∃ k, f153 k l = some y := by
  unfold s153 at h
  split at h
  · rename_i hl
    cases h
    refine ⟨l.length + 2, ?_⟩
    unfold f153
    rw [iter_fold (β := List Int × List Int) l (fun j b => ((b.1, b.2, (j : Int), ()), ())) rostStep (fun b => .inr ((b.1, b.2, ()), ())) (fun j b => b.1.length ≤ j ∧ b.2.length = j) ([], []) ?hb ?hs ?hk ?hJ ?h1 ?h2]
    · rfl
    case hb => exact ⟨Nat.le_refl _, rfl⟩
    case hs => rfl
    case hk => omega
    · intro j x b hx hJ
      unfold rostStep
      split
      · simp only [List.length_set, List.length_append, List.length_singleton]; omega
      · simp only [List.length_append, List.length_singleton]; omega
    · intro j x b hx hJ
      obtain ⟨fr, out⟩ := b
      obtain ⟨hJ1, hJ2⟩ := hJ
      simp only at hJ1 hJ2
      have hjl := (List.getElem?_eq_some_iff.1 hx).1
      simp only [lt_at hx, inR_at hx, rd_at hx, wrap_succ hx (by omega), cond_true]
      rw [iter_find (s0 := (((0 : Int), ()), (x, ()))) fr (fun i => (((i : Int), ()), (x, ()))) (fun f => decide (f ≤ x.1)) (fun i => .inl (.inr (((i : Int), ()), (fr, (x.1, x.2.1, ()), ())))) (.inr ((), ((x.1, x.2.1, ()), ()))) rfl (by omega) ?g1 ?g2]
      case g1 =>
        intro i f hf
        simp only [lt_at hf, inR_at hf, rd_at hf, wrap_succ hf (by omega), cond_true]
        cases decide (f ≤ x.1) <;> rfl
      case g2 => simp
      unfold rostStep
      simp only [Option.bind_some]
      cases hfi : fr.findIdx? (fun f => decide (f ≤ x.1)) with
      | some i =>
        have hil : i < fr.length := by
          have := List.findIdx?_eq_some_iff_findIdx_eq.1 hfi
          omega
        have e1 : decide ((i : Int) < 0) = false := by simp
        have e2 : inR (i : Int) (fr.length : Int) = true := by simp [inR]; omega
        have e3 : decide (out.length + [(i : Int)].length ≤ 4294967296) = true := by simp; omega
        simp only [Option.bind_some, e1, cond_false, e2, cond_true, e3, Int.toNat_natCast]
      | none =>
        have e1 : decide ((-1 : Int) < 0) = true := by decide
        have e3 : decide (fr.length + [(0 : Int)].length ≤ 4294967296) = true := by simp; omega
        have e2 : inR (fr.length : Int) ((fr ++ [(0 : Int)]).length : Int) = true := by simp [inR]; omega
        have e4 : decide (out.length + [(fr.length : Int)].length ≤ 4294967296) = true := by simp; omega
        simp only [Option.bind_some, e1, e3, cond_true, e2, e4, Int.toNat_natCast]
        have e5 : List.set (fr ++ [(0 : Int)]) fr.length x.2.1 = fr ++ [x.2.1] := by
          rw [List.set_append]; simp
        rw [e5]
    · intro b _
      simp
  · cases h
def s104 (l : List Wd) : Option (Int × Int × Unit) := if shiftsFault l = 0 then some (((rost l).1.length : Int), 0, ()) else some (0, shiftsFault l, ())
theorem shift_len {l : List Wd} (h : shiftsFault l = 0) : l.length ≤ 500 := by
  unfold shiftsFault at h
  split at h
  · cases h
  · omega
theorem h104 (l : List Wd) (y : Int × Int × Unit) (hw : WFs A104 (l, ())) (h : s104 l = some y) : ∃ k, f104 s152 s153 k l = some y := by
  refine ⟨0, ?_⟩
  unfold s104 at h
  unfold f104 s152
  simp only [Option.bind_some]
  split at h
  · rename_i he
    cases h
    have hl := shift_len he
    unfold s153
    rw [if_pos (by omega)]
    simp [he]
  · rename_i he
    cases h
    have : (shiftsFault l != 0) = true := by simpa using he
    rw [this]; rfl
end Go.Vm

/- Needs by halving; the law. Own work. -/
set_option linter.unusedVariables false
set_option linter.unusedSimpArgs false
namespace Go.Vm
open Go.RowKit Go.Vm.Gain
/-! ### one vehicle, one place -/
theorem out_false {a b c : Int} (h : s74 a b c = false) : b ≤ a ∧ a ≤ c := by
  unfold s74 at h
  simp only [Bool.or_eq_false_iff, decide_eq_false_iff_not] at h
  omega
/-! ### drivers, at one input -/
def s46 : Option (Bool × Unit) := f46 s104 20
theorem h46 (y : Bool × Unit) (hw : WFs A46 ()) (h : s46 = some y) : ∃ k, f46 s104 k = some y := ⟨20, h⟩
theorem s24_true : s46 = some (true, ()) := by kernel_rfl
end Go.Vm

/- LevelsReckoned: what is wrong with trips and charges. Own work. -/
set_option linter.unusedVariables false
set_option linter.unusedSimpArgs false
namespace Go.Vm
open Go.RowKit Go.Vm.Gain
abbrev Run := ByteArray × (Int × Int × Unit) × Int × Int × Unit
abbrev Chg := ByteArray × ByteArray × Int × Int × Int × Unit
abbrev Trn := Int × Int × Int × Unit
theorem in_not_out (a b c : Int) : (!s71 a b c) = s74 a b c := by
  unfold s71 s74
  rw [Bool.not_and]
  congr 1
  · rw [← decide_not]; congr 1; apply propext; omega
  · rw [← decide_not]; congr 1; apply propext; omega
/-! ### moments -/
def s37 (a : Int) : Bool := !s74 a 0 345686399999
def s73 (a : Int) : Bool := !s74 a 0 345686399999
def s41 (a : Int) : Int := s35 (s74 a 0 345686399999) 1
theorem h37 (a : Int) (hw : WFs A37 (a, ())) : ∃ k, f37 s71 k a = some (s37 a, ()) := ⟨0, by unfold f37 s37; rw [← in_not_out]; simp⟩
theorem h73 (a : Int) (hw : WFs A73 (a, ())) : ∃ k, f73 s74 k a = some (s73 a, ()) := ⟨0, rfl⟩
theorem h41 (a : Int) (hw : WFs A41 (a, ())) : ∃ k, f41 s35 s37 k a = some (s41 a, ()) := ⟨0, by unfold f41 s37 s41; simp⟩
/-! ### trips -/
def runBad (t : Run) : Bool := decide (t.2.1.1 < 0) || (decide (t.2.1.1 ≥ t.2.1.2.1) || (decide (t.2.1.2.1 > 345686400000) || (s74 t.2.2.1 0 1000000000 || s74 t.2.2.2.1 0 1000000)))
def runB (t : Run) (p : Option Run) : Option Run ⊕ ((Int × Unit) ⊕ (Unit × Unit)) :=
  bif !key t.1 then .inr (.inl (5, ())) else bif runBad t then .inr (.inl (1, ())) else match p with
    | none => .inl (some t)
    | some o => bif sLt t.1 o.1 then .inr (.inl (7, ())) else bif sEq t.1 o.1 then bif decide (t.2.1.1 < o.2.1.2.1) then .inr (.inl (7, ())) else .inl (some t) else .inl (some t)
def runsFault (l : List Run) : Int := if l.length > 1000 then 2 else out1 (scan (fun _ => runB) (fun _ => .inr ((), ())) l 0 none)
def s85 := runsFault
def s34 := runsFault
def RJ (xs : List Run) (j : Nat) (p : Option Run) : Prop := (j = 0 ∧ p = none) ∨ ∃ o, 0 < j ∧ xs[j - 1]? = some o ∧ p = some o ∧ o.2.1.1 < o.2.1.2.1
theorem RJ_next {xs : List Run} (j : Nat) (x : Run) (b b' : Option Run) (hx : xs[j]? = some x) (h : runB x b = .inl b') : RJ xs (j + 1) b' := by
  unfold runB at h
  cases hk : key x.1
  · rw [hk] at h; cases h
  · cases hb : runBad x
    · have hlt : x.2.1.1 < x.2.1.2.1 := by
        simp only [runBad, Bool.or_eq_false_iff, decide_eq_false_iff_not] at hb
        omega
      rw [hk, hb] at h
      right
      refine ⟨x, by omega, hx, ?_, hlt⟩
      cases b with
      | none => simp only [Bool.not_true, cond_false, Sum.inl.injEq] at h; exact h.symm
      | some o =>
        simp only [Bool.not_true, cond_false] at h
        cases h1 : sLt x.1 o.1 <;> rw [h1] at h
        · cases h2 : sEq x.1 o.1 <;> rw [h2] at h
          · simp only [cond_false, Sum.inl.injEq] at h; exact h.symm
          · simp only [cond_false, cond_true] at h
            cases h3 : decide (x.2.1.1 < o.2.1.2.1) <;> rw [h3] at h
            · simp only [cond_false, Sum.inl.injEq] at h; exact h.symm
            · simp at h
        · simp at h
    · rw [hk, hb] at h; cases h
theorem prev_of {xs : List Run} {j : Nat} {o : Run} (hl : xs.length ≤ 9223372036854775807) (h : 0 < j) (ho : xs[j - 1]? = some o) : IntKind.i64.wrap ((j : Int) - 1) = ((j - 1 : Nat) : Int) := by
  have := (List.getElem?_eq_some_iff.1 ho).1
  rw [wrap_ok (by omega) (by omega)]; omega
theorem h85 (l : List Run) (hw : WFs A85 (l, ())) : ∃ k, f85 s74 s75 k l = some (s85 l, ()) := by
  simp only [WFs, WF] at hw
  have hl := hw.1.1
  refine ⟨l.length + 1, ?_⟩
  unfold f85 s85 runsFault
  rw [show (1000 : Int) = ((1000 : Nat) : Int) from rfl, len_gt]
  by_cases hn : l.length > 1000
  · simp [hn]
  · simp only [hn, decide_false, cond_false, if_false]
    rw [iter_scanI (β := Option Run) l (fun j _ => (((j : Int), ()), ())) (fun _ => runB) (fun _ => .inr ((), ())) (RJ l) none ?hb ?hs ?hk ?hJ ?h1 ?h2]
    · exact out1_bind _
    case hb => exact .inl ⟨rfl, rfl⟩
    case hs => rfl
    case hk => exact Nat.lt_succ_self _
    · intro j x b b' hx _ h
      exact RJ_next j x b b' hx h
    · intro j x b hx hJ
      simp only [lt_at hx, inR_at hx, rd_at hx, wrap_succ hx hl, cond_true, s75]
      unfold runB runBad
      cases !key x.1
      · simp only [cond_false]
        cases h1 : decide (x.2.1.1 < 0)
        · cases h2 : decide (x.2.1.1 ≥ x.2.1.2.1)
          · cases h3 : decide (x.2.1.2.1 > 345686400000)
            · cases h4 : s74 x.2.2.1 0 1000000000
              · cases h5 : s74 x.2.2.2.1 0 1000000
                · simp only [cond_false, Bool.or_false]
                  rcases hJ with ⟨rfl, rfl⟩ | ⟨o, hj, ho, rfl, hlt⟩
                  · rfl
                  · have e0 : (((j : Nat) : Int) == 0) = false := by simp; omega
                    simp only [e0, cond_false, prev_of hl hj ho, inR_at ho, rd_at ho, cond_true]
                    cases h6 : sLt x.1 o.1
                    · cases h7 : sEq x.1 o.1
                      · rfl
                      · simp only [cond_true, cond_false]
                        cases h8 : decide (x.2.1.1 < o.2.1.2.1)
                        · have : decide (x.2.1.1 ≤ o.2.1.1) = false := by
                            have := of_decide_eq_false h8
                            exact decide_eq_false (by omega)
                          rw [this]; rfl
                        · cases decide (x.2.1.1 ≤ o.2.1.1) <;> rfl
                    · rfl
                · rfl
              · rfl
            · rfl
          · rfl
        · rfl
      · rfl
    · intro b _
      simp
theorem h34 (l : List Run) (hw : WFs A34 (l, ())) : ∃ k, f34 s36 s71 k l = some (s34 l, ()) := by
  simp only [WFs, WF] at hw
  have hl := hw.1.1
  refine ⟨l.length + 1, ?_⟩
  unfold f34 s34 runsFault
  rw [show (1000 : Int) = ((1000 : Nat) : Int) from rfl, len_gt]
  by_cases hn : l.length > 1000
  · simp [hn]
  · simp only [hn, decide_false, cond_false, if_false]
    rw [iter_scanI (β := Option Run) l (fun j _ => (((j : Int), ()), ())) (fun _ => runB) (fun _ => .inr ((), ())) (RJ l) none ?hb ?hs ?hk ?hJ ?h1 ?h2]
    · exact out1_bind _
    case hb => exact .inl ⟨rfl, rfl⟩
    case hs => rfl
    case hk => exact Nat.lt_succ_self _
    · intro j x b b' hx _ h
      exact RJ_next j x b b' hx h
    · intro j x b hx hJ
      simp only [lt_at hx, inR_at hx, rd_at hx, wrap_succ hx hl, cond_true, s36, in_not_out]
      unfold runB runBad
      cases !key x.1
      · simp only [cond_false]
        cases h1 : decide (x.2.1.1 < 0)
        · cases h2 : decide (x.2.1.1 ≥ x.2.1.2.1)
          · cases h3 : decide (x.2.1.2.1 > 345686400000)
            · cases h4 : s74 x.2.2.1 0 1000000000
              · cases h5 : s74 x.2.2.2.1 0 1000000
                · simp only [cond_false, Bool.or_false]
                  rcases hJ with ⟨rfl, rfl⟩ | ⟨o, hj, ho, rfl, hlt⟩
                  · rfl
                  · have e0 : (((j : Nat) : Int) == 0) = false := by simp; omega
                    simp only [e0, cond_false, prev_of hl hj ho, inR_at ho, rd_at ho, cond_true]
                    cases h6 : sLt x.1 o.1
                    · cases h7 : sEq x.1 o.1
                      · rfl
                      · simp only [cond_true, cond_false]
                        cases h8 : decide (x.2.1.1 < o.2.1.2.1) <;> rfl
                    · rfl
                · rfl
              · rfl
            · rfl
          · rfl
        · rfl
      · rfl
    · intro b _
      simp
/-! ### charges -/
def chgBad (c : Chg) : Bool := (!(c.2.2.1 == -1 && c.2.2.2.1 == -1) && (s74 c.2.2.1 0 c.2.2.2.1 || decide (c.2.2.2.1 > 345686400000))) || s74 c.2.2.2.2.1 0 1000000
def chgB (c : Chg) (_ : Unit) : Unit ⊕ ((Int × Unit) ⊕ (Unit × Unit)) :=
  bif !key c.1 then .inr (.inl (5, ())) else bif !key c.2.1 then .inr (.inl (5, ())) else bif chgBad c then .inr (.inl (1, ())) else .inl ()
def chgsFault (l : List Chg) : Int := if l.length > 1000 then 2 else out1 (scan (fun _ => chgB) (fun _ => .inr ((), ())) l 0 ())
def s88 := chgsFault
def s39 := chgsFault
theorem h88 (l : List Chg) (hw : WFs A88 (l, ())) : ∃ k, f88 s74 s75 k l = some (s88 l, ()) := by
  simp only [WFs, WF] at hw
  have hl := hw.1.1
  refine ⟨l.length + 1, ?_⟩
  unfold f88 s88 chgsFault
  rw [show (1000 : Int) = ((1000 : Nat) : Int) from rfl, len_gt]
  by_cases hn : l.length > 1000
  · simp [hn]
  · simp only [hn, decide_false, cond_false, if_false]
    rw [iter_scan0 (β := Unit) l (fun j _ => (((j : Int), ()), ())) (fun _ => chgB) (fun _ => .inr ((), ())) () ?hs ?hk ?h1 ?h2]
    · exact out1_bind _
    case hs => rfl
    case hk => exact Nat.lt_succ_self _
    · intro j x b hx
      simp only [lt_at hx, inR_at hx, rd_at hx, wrap_succ hx hl, cond_true, s75]
      unfold chgB chgBad
      simp only [bne]
      cases !key x.1
      · cases !key x.2.1
        · simp only [cond_false]
          cases x.2.2.1 == -1 <;> cases x.2.2.2.1 == -1 <;> cases s74 x.2.2.1 0 x.2.2.2.1 <;> cases decide (x.2.2.2.1 > 345686400000) <;> cases s74 x.2.2.2.2.1 0 1000000 <;> rfl
        · rfl
      · rfl
    · intro b
      simp
theorem h39 (l : List Chg) (hw : WFs A39 (l, ())) : ∃ k, f39 s36 s71 k l = some (s39 l, ()) := by
  simp only [WFs, WF] at hw
  have hl := hw.1.1
  refine ⟨l.length + 1, ?_⟩
  unfold f39 s39 chgsFault
  rw [show (1000 : Int) = ((1000 : Nat) : Int) from rfl, len_gt]
  by_cases hn : l.length > 1000
  · simp [hn]
  · simp only [hn, decide_false, cond_false, if_false]
    rw [iter_scan0 (β := Unit) l (fun j _ => (((j : Int), ()), ())) (fun _ => chgB) (fun _ => .inr ((), ())) () ?hs ?hk ?h1 ?h2]
    · exact out1_bind _
    case hs => rfl
    case hk => exact Nat.lt_succ_self _
    · intro j x b hx
      simp only [lt_at hx, inR_at hx, rd_at hx, wrap_succ hx hl, cond_true, s36, in_not_out]
      unfold chgB chgBad
      cases !key x.1
      · cases !key x.2.1
        · cases x.2.2.1 == -1 <;> cases x.2.2.2.1 == -1 <;> cases s74 x.2.2.1 0 x.2.2.2.1 <;> cases decide (x.2.2.2.1 > 345686400000) <;> cases s74 x.2.2.2.2.1 0 1000000 <;> rfl
        · cases x.2.2.1 == -1 <;> cases x.2.2.2.1 == -1 <;> rfl
      · cases x.2.2.1 == -1 <;> cases x.2.2.2.1 == -1 <;> rfl
    · intro b
      simp
end Go.Vm

/- LevelsReckoned: what happens to a level. Own work. -/
set_option linter.unusedVariables false
set_option linter.unusedSimpArgs false
namespace Go.Vm
open Go.RowKit Go.Vm.Gain
section
variable {α γ ρ : Type}
/-- A LOOP THAT COLLECTS. -/
theorem collect {f : (List γ × Int × Unit) × Unit → Option (((List γ × Int × Unit) × Unit) ⊕ (ρ ⊕ ((List γ × Unit) × Unit)))} {k : Nat} (xs : List α) (g : α → Option γ) (acc : List γ) (hk : xs.length < k) (hlen : acc.length + xs.length ≤ 4294967296)
    (h1 : ∀ (j : Nat) (x : α) (b : List γ), xs[j]? = some x → b.length < 4294967296 → f ((b, (j : Int), ()), ()) = some (.inl (((match g x with | some y => b ++ [y] | none => b), ((j + 1 : Nat) : Int), ()), ())))
    (h2 : ∀ b, f ((b, (xs.length : Int), ()), ()) = some (.inr (.inr ((b, ()), ())))) : iter k f ((acc, (0 : Int), ()), ()) = some (.inr ((acc ++ xs.filterMap g, ()), ())) := by
  rw [iter_scanI (s0 := ((acc, (0 : Int), ()), ())) (β := List γ) xs (fun j b => ((b, (j : Int), ()), ())) (fun _ x b => .inl (match g x with | some y => b ++ [y] | none => b)) (fun b => .inr ((b, ()), ())) (fun j b => b.length ≤ acc.length + j) acc (Nat.le_refl _) rfl hk ?_ ?_ ?_]
  · congr 1
    have key : ∀ (l : List α) (j : Nat) (b : List γ), scan (β := List γ) (τ := ρ ⊕ ((List γ × Unit) × Unit)) (fun _ x b => .inl (match g x with | some y => b ++ [y] | none => b)) (fun b => .inr ((b, ()), ())) l j b = .inr ((b ++ l.filterMap g, ()), ()) := by
      intro l
      induction l with
      | nil => intro j b; simp [scan]
      | cons x l ih =>
        intro j b
        simp only [scan, ih, List.filterMap_cons]
        cases g x <;> simp
    rw [key]
  · intro j x b b' hx hb h
    cases h
    cases g x with
    | none => simp only; omega
    | some y => simp only [List.length_append, List.length_singleton]; omega
  · intro j x b hx hb
    have := (List.getElem?_eq_some_iff.1 hx).1
    rw [h1 j x b hx (by omega)]
  · intro b _
    exact h2 b
end
/-! ### the order -/
def s213 (a b : Trn) : Int := nz [s67 a.1 b.1, s67 a.2.1 b.2.1]
theorem h213 (a b : Trn) (hw : WFs A213 (a, b, ())) : ∃ k, f213 s66 s67 k a b = some (s213 a b, ()) := ⟨0, rfl⟩
def cmpB (ys : List Int) (j : Nat) (x : Int) (_ : Unit) : Unit ⊕ ((Int × Unit) ⊕ (Unit × Unit)) :=
  match ys[j]? with
  | none => .inr (.inl (1, ()))
  | some y => bif s67 x y != 0 then .inr (.inl (s67 x y, ())) else .inl ()
def s188 (xs ys : List Int) : Int := match scan (cmpB ys) (fun _ => .inr ((), ())) xs 0 () with
  | .inl z => z.1
  | .inr _ => if xs.length < ys.length then -1 else 0
theorem h188 (xs ys : List Int) (hw : WFs A188 (xs, ys, ())) : ∃ k, f188 s67 k xs ys = some (s188 xs ys, ()) := by
  simp only [WFs, WF] at hw
  have hl := hw.1.1
  refine ⟨xs.length + 1, ?_⟩
  unfold f188 s188
  rw [iter_scan0 (β := Unit) xs (fun j _ => (((j : Int), ()), ())) (cmpB ys) (fun _ => .inr ((), ())) () ?hs ?hk ?h1 ?h2]
  · simp only [Option.bind_some]
    cases scan (cmpB ys) (fun _ => Sum.inr ((), ())) xs 0 () with
    | inl z => rfl
    | inr z =>
      by_cases h : xs.length < ys.length
      · have : decide (((xs.length : Nat) : Int) < ((ys.length : Nat) : Int)) = true := decide_eq_true (by omega)
        simp only [this, cond_true, if_pos h]
      · have : decide (((xs.length : Nat) : Int) < ((ys.length : Nat) : Int)) = false := decide_eq_false (by omega)
        simp only [this, cond_false, if_neg h]
  case hs => rfl
  case hk => exact Nat.lt_succ_self _
  · intro j x b hx
    simp only [lt_at hx, inR_at hx, rd_at hx, wrap_succ hx hl, cond_true]
    unfold cmpB
    cases hy : ys[j]? with
    | none =>
      have : decide ((j : Int) ≥ ((ys.length : Nat) : Int)) = true := by
        have := List.getElem?_eq_none_iff.1 hy
        exact decide_eq_true (by omega)
      simp only [this, cond_true]
    | some y =>
      have : decide ((j : Int) ≥ ((ys.length : Nat) : Int)) = false := by
        have := (List.getElem?_eq_some_iff.1 hy).1
        exact decide_eq_false (by omega)
      simp only [this, cond_false, inR_at hy, rd_at hy, cond_true]
      cases s67 x y != 0 <;> rfl
  · intro b
    simp
def s187 (a b : Trn) : Int := s188 [a.1, a.2.1] [b.1, b.2.1]
theorem h187 (a b : Trn) (hw : WFs A187 (a, b, ())) : ∃ k, f187 s188 k a b = some (s187 a b, ()) := ⟨0, rfl⟩
theorem s219_eq : s187 = s213 := by
  funext a b
  unfold s187 s213 s188
  simp only [scan, cmpB, List.getElem?_cons_zero, List.getElem?_cons_succ, nz]
  by_cases h1 : s67 a.1 b.1 = 0
  · have e1 : (s67 a.1 b.1 != 0) = false := by simp [h1]
    simp only [e1, cond_false, if_pos h1]
    by_cases h2 : s67 a.2.1 b.2.1 = 0
    · have e2 : (s67 a.2.1 b.2.1 != 0) = false := by simp [h2]
      simp [e2, h2]
    · have e2 : (s67 a.2.1 b.2.1 != 0) = true := by simp [h2]
      simp [e2, h2]
  · have e1 : (s67 a.1 b.1 != 0) = true := by simp [h1]
    simp [e1, h1]
theorem lt267 (a b : Trn) : ltOf s213 a b = true ↔ a.1 < b.1 ∨ (a.1 = b.1 ∧ a.2.1 < b.2.1) := by
  unfold ltOf s213
  simp only [nz, s67, decide_eq_true_eq]
  by_cases h1 : a.1 < b.1
  · simp [h1]
  · by_cases h2 : a.1 > b.1
    · simp [h1, h2]; omega
    · have h3 : a.1 = b.1 := by omega
      by_cases h4 : a.2.1 < b.2.1
      · simp [h3, h4]
      · by_cases h5 : a.2.1 > b.2.1 <;> simp [h3, h4, h5]
theorem W267 : Weak (ltOf s213) := by
  have no : ∀ a b : Trn, ltOf s213 a b = false ↔ ¬ (a.1 < b.1 ∨ (a.1 = b.1 ∧ a.2.1 < b.2.1)) := fun a b => by rw [← lt267, Bool.not_eq_true]
  refine ⟨fun x => ?_, fun x y z h1 h2 => ?_, fun x y z h1 h2 => ?_⟩
  · rw [no]; omega
  · rw [lt267] at *; omega
  · rw [no] at *; omega
abbrev ltT := ltOf s213
def s212 (xs : List Trn) : Option (List Trn) := if xs.length ≤ 4294967296 then some (stab ltT xs) else none
def s186 (xs : List Trn) : Option (List Trn) := if xs.length ≤ 4294967296 then some (stab (ltOf s187) xs) else none
theorem W219 : Weak (ltOf s187) := by rw [s219_eq]; exact W267
/-! ### the things that happen -/
def ownR (v : ByteArray) (r : Run) : Option Run := bif sEq r.1 v then some r else none
def thC (v : ByteArray) (c : Chg) : Option Trn := bif sEq c.1 v then bif decide (c.2.2.2.1 ≥ 0) then some (c.2.2.2.1, 0, c.2.2.2.2.1, ()) else none else none
def thR (v : ByteArray) (r : Run) : Option Trn := bif sEq r.1 v then some (r.2.1.2.1, 1, r.2.2.2.1, ()) else none
def things (v : ByteArray) (t : List Run) (c : List Chg) : List Trn := c.filterMap (thC v) ++ t.filterMap (thR v)
theorem things_len (v : ByteArray) (t : List Run) (c : List Chg) : (things v t c).length ≤ t.length + c.length := by
  unfold things
  have h1 := List.length_filterMap_le (thC v) c
  have h2 := List.length_filterMap_le (thR v) t
  simp only [List.length_append]; omega
def s86 (t : List Run) (v : ByteArray) : Option (List Run × Unit) := if t.length ≤ 4294967295 then some (t.filterMap (ownR v), ()) else none
theorem h86 (t : List Run) (v : ByteArray) (y : List Run × Unit) (hw : WFs A86 (t, v, ())) (h : s86 t v = some y) : ∃ k, f86 k t v = some y := by
  unfold s86 at h
  split at h
  · rename_i hn
    cases h
    refine ⟨t.length + 1, ?_⟩
    unfold f86
    rw [collect t (ownR v) [] (Nat.lt_succ_self _) (by simp; omega) ?h1 ?h2]
    · simp
    · intro j x b hx hb
      simp only [lt_at hx, inR_at hx, rd_at hx, wrap_succ hx (by omega), cond_true, ownR]
      have : decide (b.length + [x].length ≤ 4294967296) = true := decide_eq_true (by simp only [List.length_singleton]; omega)
      cases sEq x.1 v <;> simp only [cond_true, cond_false, this]
    · intro b
      simp
  · cases h
def trns (v : ByteArray) (t : List Run) (c : List Chg) : List Trn := stab ltT (things v t c)
def s181 (v : ByteArray) (t : List Run) (c : List Chg) : Option (List Trn × Unit) := if t.length + c.length ≤ 4294967295 then some (trns v t c, ()) else none
theorem h181 (v : ByteArray) (t : List Run) (c : List Chg) (y : List Trn × Unit) (hw : WFs A181 (v, t, c, ())) (h : s181 v t c = some y) : ∃ k, f181 s86 s212 k v t c = some y := by
  unfold s181 at h
  split at h
  · rename_i hn
    cases h
    refine ⟨t.length + c.length + 1, ?_⟩
    unfold f181
    rw [collect c (thC v) [] (by omega) (by simp; omega) ?h1 ?h2]
    · simp only [Option.bind_some]
      rw [show s86 t v = some (t.filterMap (ownR v), ()) from by unfold s86; rw [if_pos (by omega)]]
      simp only [Option.bind_some, List.nil_append]
      have hl := List.length_filterMap_le (thC v) c
      have hl2 := List.length_filterMap_le (ownR v) t
      rw [collect (t.filterMap (ownR v)) (fun r => some ((r.2.1.2.1, 1, r.2.2.2.1, ()) : Trn)) (c.filterMap (thC v)) (k := t.length + c.length + 1) (by omega) (by omega) ?h3 ?h4]
      · simp only [Option.bind_some]
        have e : c.filterMap (thC v) ++ (t.filterMap (ownR v)).filterMap (fun r => some ((r.2.1.2.1, 1, r.2.2.2.1, ()) : Trn)) = things v t c := by
          unfold things
          congr 1
          rw [List.filterMap_filterMap]
          congr 1
          funext r
          unfold ownR thR
          cases sEq r.1 v <;> rfl
        rw [e]
        have := things_len v t c
        unfold s212 trns
        rw [if_pos (by omega)]
        rfl
      · intro j x b hx hb
        simp only [lt_at hx, inR_at hx, rd_at hx, wrap_succ hx (by omega), cond_true]
        have : decide (b.length + [((x.2.1.2.1, 1, x.2.2.2.1, ()) : Trn)].length ≤ 4294967296) = true := decide_eq_true (by simp only [List.length_singleton]; omega)
        simp only [this, cond_true]
      · intro b
        simp
    · intro j x b hx hb
      simp only [lt_at hx, inR_at hx, rd_at hx, wrap_succ hx (by omega), cond_true, thC]
      have : decide (b.length + [((x.2.2.2.1, 0, x.2.2.2.2.1, ()) : Trn)].length ≤ 4294967296) = true := decide_eq_true (by simp only [List.length_singleton]; omega)
      cases sEq x.1 v
      · rfl
      · cases decide (x.2.2.2.1 ≥ 0) <;> simp only [cond_true, cond_false, this]
    · intro b
      simp
  · cases h
/-! ### levels -/
def stp (n : Int) (t : Trn) : Int := bif t.2.1 == 0 then (if decide (t.2.2.1 > n) then t.2.2.1 else n) else IntKind.i64.wrap (n - t.2.2.1)
def lvs : Int → List Trn → List Int
  | _, [] => []
  | n, t :: l => stp n t :: lvs (stp n t) l
def brk (at_ : Int) : Int → List Trn → Int
  | n, [] => n
  | n, t :: l => bif decide (t.1 > at_) then n else brk at_ (stp n t) l
def s93 (v : ByteArray) (t : List Run) (c : List Chg) (st at_ : Int) : Option (Int × Unit) := if t.length + c.length ≤ 4294967295 then some (brk at_ st (trns v t c), ()) else none
theorem trns_len (v : ByteArray) (t : List Run) (c : List Chg) : (trns v t c).length ≤ t.length + c.length := by
  have := (stab_same W267 (things v t c)).1
  have h2 := things_len v t c
  show (stab (ltOf s213) (things v t c)).length ≤ _
  omega
theorem h93 (v : ByteArray) (t : List Run) (c : List Chg) (st at_ : Int) (y : Int × Unit) (hw : WFs A93 (v, t, c, st, at_, ())) (h : s93 v t c st at_ = some y) : ∃ k, f93 s181 k v t c st at_ = some y := by
  unfold s93 at h
  split at h
  · rename_i hn
    cases h
    refine ⟨t.length + c.length + 1, ?_⟩
    unfold f93
    rw [show s181 v t c = some (trns v t c, ()) from by unfold s181; rw [if_pos hn]]
    simp only [Option.bind_some]
    have hl := trns_len v t c
    generalize trns v t c = l at *
    rw [iter_scan0 (β := Int) l (fun j n => ((n, (j : Int), ()), (n, ()))) (fun _ t n => bif decide (t.1 > at_) then .inr (.inl (n, ())) else .inl (stp n t)) (fun n => .inr ((), (n, ()))) st ?hs ?hk ?h1 ?h2]
    · have key : ∀ (l : List Trn) (j : Nat) (n : Int), (Option.bind (some (scan (β := Int) (τ := (Int × Unit) ⊕ (Unit × (Int × Unit))) (fun _ (t : Trn) n => bif decide (t.1 > at_) then .inr (.inl (n, ())) else .inl (stp n t)) (fun n => .inr ((), (n, ()))) l j n)) fun r => match r with | .inl z => some z | .inr z4 => some (z4.2.1, ())) = some (brk at_ n l, ()) := by
        intro l
        induction l with
        | nil => intro j n; rfl
        | cons t l ih =>
          intro j n
          simp only [scan, brk]
          cases decide (t.1 > at_)
          · exact ih (j + 1) (stp n t)
          · rfl
      exact key l 0 st
    case hs => rfl
    case hk => omega
    · intro j x b hx
      simp only [lt_at hx, inR_at hx, rd_at hx, wrap_succ hx (by omega), cond_true, stp]
      cases decide (x.1 > at_)
      · simp only [cond_false]
        cases x.2.1 == 0 <;> rfl
      · rfl
    · intro b
      simp
  · cases h
end Go.Vm

/- LevelsReckoned: levels. Own work. -/
set_option linter.unusedVariables false
set_option linter.unusedSimpArgs false
namespace Go.Vm
open Go.RowKit Go.Vm.Gain
theorem wrap_last {n : Nat} (h : n ≤ 9223372036854775807) : IntKind.i64.wrap (((n + 1 : Nat) : Int) - 1) = (n : Int) := by
  rw [wrap_ok (by omega) (by omega)]; omega
def s151 (v : ByteArray) (t : List Run) (c : List Chg) (st : Int) : Option (List Int × List Int × Unit) :=
  if t.length + c.length ≤ 4294967290 then some ((-1) :: (trns v t c).map (·.1), st :: lvs st (trns v t c), ()) else none
theorem h151 (v : ByteArray) (t : List Run) (c : List Chg) (st : Int) (y : List Int × List Int × Unit) (hw : WFs A151 (v, t, c, st, ())) (h : s151 v t c st = some y) : ∃ k, f151 s186 k v t c st = some y := by
  unfold s151 at h
  split at h
  · rename_i hn
    cases h
    refine ⟨t.length + c.length + 1, ?_⟩
    unfold f151
    rw [collect c (thC v) [] (by omega) (by simp; omega) ?h1 ?h2]
    · simp only [Option.bind_some]
      have hl := List.length_filterMap_le (thC v) c
      rw [collect t (thR v) ([] ++ c.filterMap (thC v)) (k := t.length + c.length + 1) (by omega) (by simp only [List.nil_append]; omega) ?h3 ?h4]
      · simp only [Option.bind_some, List.nil_append]
        have hlen := things_len v t c
        have hts := trns_len v t c
        rw [show s186 (c.filterMap (thC v) ++ t.filterMap (thR v)) = some (trns v t c) from by
          unfold s186
          rw [s219_eq]
          exact if_pos (show (things v t c).length ≤ _ by omega)]
        simp only [Option.bind_some]
        generalize trns v t c = l at *
        rw [iter_scanI (β := List Int × Int) (s0 := (([(-1 : Int)], [st], (0 : Int), ()), ())) l (fun j b => (((-1) :: (l.take j).map (·.1), b.1 ++ [b.2], (j : Int), ()), ())) (fun _ t b => .inl (b.1 ++ [b.2], stp b.2 t)) (fun b => .inr (((-1) :: l.map (·.1), b.1 ++ [b.2], ()), ())) (fun j b => b.1.length = j) ([], st) rfl rfl (by omega) ?hJ ?h5 ?h6]
        · have key : ∀ (m : List Trn) (j : Nat) (b : List Int × Int), scan (β := List Int × Int) (τ := (List Int × List Int × Unit) ⊕ ((List Int × List Int × Unit) × Unit)) (fun _ t b => .inl (b.1 ++ [b.2], stp b.2 t)) (fun b => .inr (((-1) :: l.map (·.1), b.1 ++ [b.2], ()), ())) m j b = .inr (((-1) :: l.map (·.1), b.1 ++ b.2 :: lvs b.2 m, ()), ()) := by
            intro m
            induction m with
            | nil => intro j b; rfl
            | cons x m ih =>
              intro j b
              simp only [scan, ih, lvs, List.append_assoc, List.singleton_append]
          rw [key]
          rfl
        · intro j x b b' hx hb h
          cases h
          simp [hb]
        · intro j x b hx hb
          have hj := (List.getElem?_eq_some_iff.1 hx).1
          have e1 : (b.1 ++ [b.2]).length = j + 1 := by simp [hb]
          have e2 : ((-1 : Int) :: (l.take j).map (·.1)).length = j + 1 := by simp; omega
          have i1 : inR (j : Int) ((j + 1 : Nat) : Int) = true := inR_of (by omega) (by omega)
          have r1 : rd (0 : Int) (b.1 ++ [b.2]) (j : Int) = b.2 := rd_mid 0 (by rw [hb])
          have t1 : (l.take (j + 1)).map (·.1) = (l.take j).map (·.1) ++ [x.1] := by
            rw [List.take_add_one, List.map_append, hx]; rfl
          simp only [lt_at hx, inR_at hx, rd_at hx, wrap_succ hx (by omega), cond_true, e1, e2, wrap_last (show j ≤ 9223372036854775807 by omega), i1, r1, List.length_singleton]
          have d1 : decide (j + 1 + 1 ≤ 4294967296) = true := decide_eq_true (by omega)
          simp only [d1, cond_true, stp, t1]
          cases x.2.1 == 0 <;> simp only [cond_true, cond_false, Option.bind_some] <;> rfl
        · intro b hb
          simp
      · intro j x b hx hb
        simp only [lt_at hx, inR_at hx, rd_at hx, wrap_succ hx (by omega), cond_true, thR]
        have : decide (b.length + [((x.2.1.2.1, 1, x.2.2.2.1, ()) : Trn)].length ≤ 4294967296) = true := decide_eq_true (by simp only [List.length_singleton]; omega)
        cases sEq x.1 v <;> simp only [cond_true, cond_false, this]
      · intro b
        simp
    · intro j x b hx hb
      simp only [lt_at hx, inR_at hx, rd_at hx, wrap_succ hx (by omega), cond_true, thC]
      have : decide (b.length + [((x.2.2.2.1, 0, x.2.2.2.2.1, ()) : Trn)].length ≤ 4294967296) = true := decide_eq_true (by simp only [List.length_singleton]; omega)
      cases sEq x.1 v
      · rfl
      · cases decide (x.2.2.2.1 ≥ 0) <;> simp only [cond_true, cond_false, this]
    · intro b
      simp
  · cases h
def allv (at_ : Int) : Int → Int → List Trn → Int
  | m, _, [] => m
  | m, n, t :: l => allv at_ (bif decide (t.1 ≤ at_) then stp n t else m) (stp n t) l
def s103 (v : ByteArray) (t : List Run) (c : List Chg) (st at_ : Int) : Option (Int × Unit) := if t.length + c.length ≤ 4294967290 then some (allv at_ st st (trns v t c), ()) else none
theorem lvs_len (n : Int) : ∀ l : List Trn, (lvs n l).length = l.length
  | [] => rfl
  | t :: l => by simp only [lvs, List.length_cons, lvs_len (stp n t) l]
theorem lvs_at : ∀ (l : List Trn) (n : Int) (ls : List Int) (at_ m : Int), ls = lvs n l → allv at_ m n l = ((l.map (·.1)).zip ls).foldl (fun m p => bif decide (p.1 ≤ at_) then p.2 else m) m
  | [], n, ls, at_, m, h => by subst h; rfl
  | t :: l, n, ls, at_, m, h => by
    subst h
    simp only [allv, lvs, List.map_cons, List.zip_cons_cons, List.foldl_cons]
    exact lvs_at l (stp n t) _ at_ _ rfl
theorem h103 (v : ByteArray) (t : List Run) (c : List Chg) (st at_ : Int) (y : Int × Unit) (hw : WFs A103 (v, t, c, st, at_, ())) (h : s103 v t c st at_ = some y) : ∃ k, f103 s151 k v t c st at_ = some y := by
  unfold s103 at h
  split at h
  · rename_i hn
    cases h
    refine ⟨t.length + c.length + 3, ?_⟩
    unfold f103
    rw [show s151 v t c st = some ((-1) :: (trns v t c).map (·.1), st :: lvs st (trns v t c), ()) from if_pos hn]
    simp only [Option.bind_some]
    have hts := trns_len v t c
    generalize trns v t c = l at *
    have hz : ((((-1) :: l.map (·.1) : List Int)).zip (st :: lvs st l)).length = ((-1 : Int) :: l.map (·.1)).length := by simp [lvs_len]
    have hz2 : ((((-1) :: l.map (·.1) : List Int)).zip (st :: lvs st l)).length = (st :: lvs st l).length := by simp [lvs_len]
    have hz3 : ((((-1) :: l.map (·.1) : List Int)).zip (st :: lvs st l)).length = l.length + 1 := by simp [lvs_len]
    rw [iter_scan0 (β := Int) ((((-1) :: l.map (·.1) : List Int)).zip (st :: lvs st l)) (fun j n => ((n, (j : Int), ()), ())) (fun _ p n => .inl (bif decide (p.1 ≤ at_) then p.2 else n)) (fun n => .inr ((n, ()), ())) st ?hs ?hk ?h1 ?h2]
    · have key : ∀ (m : List (Int × Int)) (j : Nat) (n : Int), scan (β := Int) (τ := (Int × Unit) ⊕ ((Int × Unit) × Unit)) (fun _ (p : Int × Int) n => .inl (bif decide (p.1 ≤ at_) then p.2 else n)) (fun n => .inr ((n, ()), ())) m j n = .inr ((m.foldl (fun m p => bif decide (p.1 ≤ at_) then p.2 else m) n, ()), ()) := by
        intro m
        induction m with
        | nil => intro j n; rfl
        | cons p m ih => intro j n; simp only [scan, ih, List.foldl_cons]
      rw [key]
      simp only [Option.bind_some, List.zip_cons_cons, List.foldl_cons]
      rw [lvs_at l st _ at_ st rfl]
      have : (bif decide ((-1 : Int) ≤ at_) then st else st) = st := by cases decide ((-1 : Int) ≤ at_) <;> rfl
      rw [this]
    case hs => rfl
    case hk => omega
    · intro j p b hx
      have hx1 : ((-1 : Int) :: l.map (·.1))[j]? = some p.1 := (List.getElem?_zip_eq_some.1 hx).1
      have hx2 : (st :: lvs st l)[j]? = some p.2 := (List.getElem?_zip_eq_some.1 hx).2
      have hj := (List.getElem?_eq_some_iff.1 hx).1
      simp only [lt_at hx1, inR_at hx1, rd_at hx1, inR_at hx2, rd_at hx2, wrap_succ hx (by omega), cond_true]
      cases decide (p.1 ≤ at_) <;> rfl
    · intro b
      rw [hz]
      simp
  · cases h
/-! ### the program's -/
end Go.Vm

/- LevelsReckoned, the law. Own work. -/
set_option linter.unusedVariables false
set_option linter.unusedSimpArgs false
namespace Go.Vm
open Go.RowKit Go.Vm.Gain
theorem allv_skip (at_ : Int) : ∀ (l : List Trn) (m n : Int), (∀ x ∈ l, x.1 > at_) → allv at_ m n l = m
  | [], _, _, _ => rfl
  | t :: l, m, n, h => by
    have h1 : decide (t.1 ≤ at_) = false := decide_eq_false (by have := h t (List.mem_cons_self ..); omega)
    simp only [allv, h1, cond_false]
    exact allv_skip at_ l m _ (fun x hx => h x (List.mem_cons_of_mem _ hx))
theorem brk_all (at_ : Int) : ∀ (l : List Trn) (n : Int), l.Pairwise (fun a b => a.1 ≤ b.1) → brk at_ n l = allv at_ n n l
  | [], _, _ => rfl
  | t :: l, n, h => by
    have h' := List.pairwise_cons.1 h
    by_cases hb : t.1 > at_
    · rw [allv_skip at_ (t :: l) n n (fun x hx => by
        rcases List.mem_cons.1 hx with rfl | hx
        · exact hb
        · have := h'.1 x hx
          omega)]
      simp only [brk, decide_eq_true hb, cond_true]
    · have h1 : decide (t.1 ≤ at_) = true := decide_eq_true (by omega)
      simp only [brk, allv, decide_eq_false hb, cond_false, h1, cond_true]
      exact brk_all at_ l _ h'.2
theorem trns_sorted (v : ByteArray) (t : List Run) (c : List Chg) : (trns v t c).Pairwise (fun a b => a.1 ≤ b.1) := by
  refine (stab_order W267 (things v t c)).imp ?_
  intro a b h
  have : ¬ (b.1 < a.1 ∨ (b.1 = a.1 ∧ b.2.1 < a.2.1)) := by
    rw [← lt267, h]; simp
  omega
end Go.Vm

/- ShiftsCovered: small functions; drivers and rosters. Own work. -/
set_option linter.unusedVariables false
set_option linter.unusedSimpArgs false
namespace Go.Vm
open Go.RowKit Go.Vm.Gain
/-! ### windows, rests, moments -/
def s80 (t : Int) (w : Wd) : Bool := decide (w.1 ≤ t) && decide (t < w.2.1)
theorem h80 (t : Int) (w : Wd) (hw : WFs A80 (t, w, ())) : ∃ k, f80 k t w = some (s80 t w, ()) := ⟨0, by
  unfold f80 s80
  cases decide (w.1 ≤ t) <;> simp⟩
/-! ### right shifts -/
/-! ### what the rosters are -/
end Go.Vm
