/- OffersCount: common functions, checks of offers (shown at other seats before; renumbered). Own work. -/
import Derived.Test.YtbjpkdbneopgkaaPFn
import Derived.Test.YtbjpkdbneopgkaaPHand
import Derived.Test.YtbjpkdbneopgkaaVmQ
import Derived.Lib.Bytealg
/- Common functions of the text laws (shown at other seats before; renumbered). Own work. -/
set_option linter.unusedVariables false
set_option linter.unusedSimpArgs false
set_option maxRecDepth 100000
namespace Go.Vm
open Go.Proofs
end Go.Vm
/- Charging: what is gained, and how long it takes. Plain law. Own work. -/
namespace Go.Vm.Gain
end Go.Vm.Gain

/- What the functions of BatteriesGain come to. Own work. -/
namespace Go.Vm
open Go.RowKit
def s35 (a b c : Int) : Bool := decide (a < b) || decide (a > c)
theorem h35 (a b c : Int) (hw : WFs A35 (a, b, c, ())) : ∃ k, f35 k a b c = some (s35 a b c, ()) := by
  refine ⟨0, ?_⟩
  unfold f35 s35
  cases decide (a < b) <;> rfl
def s32 (a b c : Int) : Bool := decide (b ≤ a) && decide (a ≤ c)
theorem h32 (a b c : Int) (hw : WFs A32 (a, b, c, ())) : ∃ k, f32 k a b c = some (s32 a b c, ()) := by
  refine ⟨0, ?_⟩
  unfold f32 s32
  cases decide (b ≤ a) <;> rfl
theorem in_out (a b c : Int) : s32 a b c = !s35 a b c := by
  unfold s32 s35
  by_cases h : b ≤ a <;> by_cases h2 : a ≤ c <;> simp [h, h2] <;> omega
def nz : List Int → Int
  | [] => 0
  | x :: l => if x = 0 then nz l else x
def nzBody (x : Int) : Unit ⊕ ((Int × Unit) ⊕ (Unit × Unit)) := bif x != 0 then .inr (.inl (x, ())) else .inl ()
theorem nz_scan : ∀ (l : List Int) (j : Nat), (match scan (β := Unit) (fun _ x _ => nzBody x) (fun _ => .inr ((), ())) l j () with | .inl z => some z | .inr _ => some ((0 : Int), ())) = some (nz l, ())
  | [], j => rfl
  | x :: l, j => by
    by_cases h : x = 0
    · subst h
      simp only [scan, nzBody, nz, bne_self_eq_false, cond_false, if_true]
      exact nz_scan l (j + 1)
    · have : (x != 0) = true := by simpa using h
      simp only [scan, nzBody, nz, this, cond_true, h, if_false]
def s66 (l : List Int) : Int := nz l
def okc (b : UInt8) : Bool := (decide (97 ≤ b.toNat) && decide (b.toNat ≤ 122)) || (decide (48 ≤ b.toNat) && decide (b.toNat ≤ 57)) || b.toNat == 45 || b.toNat == 95
def lower (b : UInt8) : Bool := decide (97 ≤ b.toNat) && decide (b.toNat ≤ 122)
def keyL (l : List UInt8) : Bool := decide (1 ≤ l.length) && decide (l.length ≤ 40) && lower (l.headD 0) && l.all okc
def key (s : ByteArray) : Bool := keyL s.data.toList
theorem size_list (s : ByteArray) : s.size = s.data.toList.length := by rw [Array.length_toList]; rfl
theorem bt_at {s : ByteArray} {j : Nat} {b : UInt8} (h : s.data.toList[j]? = some b) : bt s (j : Int) = (b.toNat : Int) := by
  unfold bt
  have : s.data.getD j 0 = b := by
    rw [Array.getD_eq_getD_getElem?, ← Array.getElem?_toList, h]; rfl
  simp only [Int.toNat_natCast, this]
def allBody (b : UInt8) : Unit ⊕ ((Bool × Unit) ⊕ (Unit × Unit)) := bif okc b then .inl () else .inr (.inl (false, ()))
theorem all_scan (p : UInt8 → Bool) (body : UInt8 → Unit ⊕ ((Bool × Unit) ⊕ (Unit × Unit))) (hb : ∀ b, body b = bif p b then .inl () else .inr (.inl (false, ()))) : ∀ (l : List UInt8) (j : Nat), (match scan (β := Unit) (fun _ x _ => body x) (fun _ => .inr ((), ())) l j () with | .inl z => some z | .inr _ => some (true, ())) = some (l.all p, ())
  | [], j => rfl
  | x :: l, j => by
    simp only [scan, hb, List.all_cons]
    cases p x
    · rfl
    · simp only [cond_true, Bool.true_and]
      have := all_scan p body hb l (j + 1)
      simp only [hb] at this
      exact this
theorem h55 (s t : ByteArray) (hw : WFs A55 (s, t, ())) : ∃ k, f55 (fun s c => Lib.indexByte s.data.toList c.toNat.toUInt8) k s t = some (s.data.toList.all (fun b => t.data.toList.contains b), ()) := by
  simp only [WFs, WF] at hw
  refine ⟨s.data.toList.length + 1, ?_⟩
  unfold f55
  rw [iter_scan0 (β := Unit) s.data.toList (fun j _ => (((j : Int), ()), ())) (fun _ x _ => bif t.data.toList.contains x then .inl () else .inr (.inl (false, ()))) (fun _ => .inr ((), ())) () ?hs ?hk ?h1 ?h2]
  · exact all_scan _ _ (fun b => rfl) _ 0
  case hs => rfl
  case hk => exact Nat.lt_succ_self _
  · intro j x b hx
    have hs : s.data.toList.length ≤ 9223372036854775807 := by rw [← size_list]; exact hw.1
    simp only [size_list, lt_at hx, inR_at hx, bt_at hx, wrap_succ hx hs, cond_true]
    have : decide (Lib.indexByte t.data.toList (x.toNat : Int).toNat.toUInt8 < 0) = !t.data.toList.contains x := by
      have e : (x.toNat : Int).toNat.toUInt8 = x := by simp
      rw [e]
      generalize t.data.toList = l
      induction l with
      | nil => rfl
      | cons y l ih =>
        unfold Lib.indexByte
        have hge := Lib.indexByte_ge l x
        by_cases hyx : y = x
        · subst hyx; simp
        · have h1 : (y == x) = false := by simpa using hyx
          have h2 : (x == y) = false := by simpa using (fun h => hyx h.symm)
          simp only [h1, Bool.false_eq_true, if_false, List.contains_cons, h2, Bool.false_or]
          rw [← ih]
          by_cases h3 : Lib.indexByte l x = -1
          · simp [h3]
          · have : (Lib.indexByte l x == -1) = false := by simpa using h3
            simp only [this, Bool.false_eq_true, if_false]
            congr 1
            apply propext
            omega
    rw [this]
    cases t.data.toList.contains x <;> rfl
  · intro b
    rw [size_list]
    simp
def s80 (s : ByteArray) (c : Int) : Int := Lib.indexByte s.data.toList c.toNat.toUInt8
def s55 (s t : ByteArray) : Bool := s.data.toList.all (fun b => t.data.toList.contains b)
theorem h80 (s : ByteArray) (c : Int) (hw : WFs A80 (s, c, ())) : ∃ k, f80 s89 k s c = some (s80 s c, ()) := ⟨0, rfl⟩
def s34 (s : ByteArray) : Bool := key s
def s31 (s : ByteArray) : Bool := key s
theorem sEq_empty (s : ByteArray) : sEq s (ByteArray.mk #[]) = s.data.toList.isEmpty := by
  unfold sEq
  rw [ByteArray.toList_eq, ByteArray.toList_eq]
  cases s.data.toList <;> rfl
theorem all256 {p : UInt8 → Bool} (h : ∀ n : Fin 256, p (UInt8.ofNat n.1) = true) (b : UInt8) : p b = true := by
  have := h ⟨b.toNat, b.toNat_lt⟩
  simpa using this
theorem smalls_ok : ∀ b : UInt8, (([97, 98, 99, 100, 101, 102, 103, 104, 105, 106, 107, 108, 109, 110, 111, 112, 113, 114, 115, 116, 117, 118, 119, 120, 121, 122] : List UInt8).contains b == lower b) = true := all256 (by decide +kernel)
theorem chars_ok : ∀ b : UInt8, (([97, 98, 99, 100, 101, 102, 103, 104, 105, 106, 107, 108, 109, 110, 111, 112, 113, 114, 115, 116, 117, 118, 119, 120, 121, 122, 48, 49, 50, 51, 52, 53, 54, 55, 56, 57, 45, 95] : List UInt8).contains b == okc b) = true := all256 (by decide +kernel)
theorem h31 (s : ByteArray) (hw : WFs A31 (s, ())) : ∃ k, f31 s32 s55 k s = some (s31 s, ()) := by
  refine ⟨0, ?_⟩
  unfold f31 s31 key keyL s32 s55
  rw [size_list]
  have he : (s.extract (Int.toNat 0) (Int.toNat 1)).data.toList = s.data.toList.take 1 := by simp [ByteArray.data_extract]
  simp only [he]
  generalize s.data.toList = l
  have e1 : (fun b => ([97, 98, 99, 100, 101, 102, 103, 104, 105, 106, 107, 108, 109, 110, 111, 112, 113, 114, 115, 116, 117, 118, 119, 120, 121, 122] : List UInt8).contains b) = lower := funext fun b => by simpa using smalls_ok b
  have e2 : (fun b => ([97, 98, 99, 100, 101, 102, 103, 104, 105, 106, 107, 108, 109, 110, 111, 112, 113, 114, 115, 116, 117, 118, 119, 120, 121, 122, 48, 49, 50, 51, 52, 53, 54, 55, 56, 57, 45, 95] : List UInt8).contains b) = okc := funext fun b => by simpa using chars_ok b
  simp only [e1, e2]
  cases l with
  | nil => rfl
  | cons b l =>
    have h1 : decide ((1 : Int) ≤ ((b :: l).length : Int)) = true := by simp; omega
    have h2 : decide ((((b :: l).length : Nat) : Int) ≤ 40) = decide ((b :: l).length ≤ 40) := by congr 1; apply propext; omega
    have h3 : decide (1 ≤ (b :: l).length) = true := by simp
    simp only [h1, h2, h3, Bool.true_and]
    cases decide ((b :: l).length ≤ 40)
    · rfl
    · simp only [cond_true, Int.le_refl, decide_true, Bool.true_and, show decide ((0 : Int) ≤ 1) = true from rfl, List.take_succ_cons, List.take_zero, List.all_cons, List.all_nil, Bool.and_true, List.headD_cons]
      cases lower b <;> rfl
theorem h34 (s : ByteArray) (hw : WFs A34 (s, ())) : ∃ k, f34 k s = some (s34 s, ()) := by
  simp only [WFs, WF] at hw
  refine ⟨s.data.toList.length + 1, ?_⟩
  unfold f34 s34 key keyL
  rw [sEq_empty]
  cases hl : s.data.toList with
  | nil => rfl
  | cons b l =>
    have h0 : s.data.toList[0]? = some b := by rw [hl]; rfl
    have hb : bt s (0 : Int) = (b.toNat : Int) := bt_at h0
    have hin : inR (0 : Int) (s.size : Int) = true := by
      have := inR_at h0
      rw [← size_list] at this
      exact this
    rw [← hl]
    have hne : (s.data.toList).isEmpty = false := by rw [hl]; rfl
    have h1 : decide (1 ≤ s.data.toList.length) = true := by rw [hl]; simp
    have hh : s.data.toList.headD 0 = b := by rw [hl]; rfl
    have h2 : decide (((s.size : Nat) : Int) > 40) = !decide (s.data.toList.length ≤ 40) := by
      rw [size_list, ← decide_not]
      congr 1; apply propext; omega
    simp only [hne, h1, hh, h2, hin, hb, cond_false, cond_true, Bool.true_and]
    cases decide (s.data.toList.length ≤ 40)
    · rfl
    · simp only [Bool.not_true, cond_false, Bool.true_and]
      unfold lower
      have e1 : decide ((b.toNat : Int) < 97) = !decide (97 ≤ b.toNat) := by by_cases h : 97 ≤ b.toNat <;> simp [h] <;> omega
      have e2 : decide ((b.toNat : Int) > 122) = !decide (b.toNat ≤ 122) := by by_cases h : b.toNat ≤ 122 <;> simp [h] <;> omega
      rw [e1, e2]
      cases decide (97 ≤ b.toNat)
      · rfl
      · cases decide (b.toNat ≤ 122)
        · rfl
        · simp only [Bool.not_true, cond_false, Bool.true_and]
          rw [iter_scan0 (β := Unit) s.data.toList (fun j _ => (((j : Int), ()), ())) (fun _ x _ => allBody x) (fun _ => .inr ((), ())) () ?hs ?hk ?h1 ?h2]
          case hs => rfl
          case hk => exact Nat.lt_succ_self _
          · exact all_scan _ _ (fun b => rfl) _ 0
          · intro j x b hx
            have hs : s.data.toList.length ≤ 9223372036854775807 := by rw [← size_list]; exact hw.1
            simp only [size_list, lt_at hx, inR_at hx, bt_at hx, wrap_succ hx hs, cond_true]
            unfold allBody okc
            have a1 : decide ((x.toNat : Int) ≥ 97) = decide (97 ≤ x.toNat) := by congr 1; apply propext; omega
            have a2 : decide ((x.toNat : Int) ≤ 122) = decide (x.toNat ≤ 122) := by congr 1; apply propext; omega
            have a3 : decide ((x.toNat : Int) ≥ 48) = decide (48 ≤ x.toNat) := by congr 1; apply propext; omega
            have a4 : decide ((x.toNat : Int) ≤ 57) = decide (x.toNat ≤ 57) := by congr 1; apply propext; omega
            have a5 : ((x.toNat : Int) == 45) = (x.toNat == 45) := by rw [Bool.eq_iff_iff]; simp only [beq_iff_eq]; omega
            have a6 : ((x.toNat : Int) == 95) = (x.toNat == 95) := by rw [Bool.eq_iff_iff]; simp only [beq_iff_eq]; omega
            rw [a1, a2, a3, a4, a5, a6]
            cases decide (97 ≤ x.toNat) <;> cases decide (x.toNat ≤ 122) <;> cases decide (48 ≤ x.toNat) <;> cases decide (x.toNat ≤ 57) <;> cases (x.toNat == 45) <;> cases (x.toNat == 95) <;> rfl
          · intro b
            rw [size_list]
            simp
end Go.Vm

/- Lists that are checked. Own work. -/
namespace Go.Vm
open Go.RowKit
theorem len_gt {α : Type} (l : List α) (n : Nat) : decide ((l.length : Int) > (n : Int)) = decide (l.length > n) := by congr 1; apply propext; omega
end Go.Vm

/- What is gained, as the reference reckons it. Own work. -/
namespace Go.Vm
open Go.RowKit Go.Vm.Gain
end Go.Vm

/- Shifts: what is wrong with them, and whose each one is. Own work. -/
namespace Go.Vm
open Go.RowKit Go.Vm.Gain
end Go.Vm

/- Needs by halving; the law. Own work. -/
namespace Go.Vm
open Go.RowKit Go.Vm.Gain
end Go.Vm

/- LevelsReckoned: what is wrong with trips and charges. Own work. -/
namespace Go.Vm
open Go.RowKit Go.Vm.Gain
end Go.Vm

/- LevelsReckoned: what happens to a level. Own work. -/
namespace Go.Vm
open Go.RowKit Go.Vm.Gain
section
variable {α γ ρ : Type}
end
end Go.Vm

/- LevelsReckoned: levels. Own work. -/
namespace Go.Vm
open Go.RowKit Go.Vm.Gain
end Go.Vm

/- LevelsReckoned, the law. Own work. -/
namespace Go.Vm
open Go.RowKit Go.Vm.Gain
end Go.Vm

/- ShiftsCovered: small functions; drivers and rosters. Own work. -/
namespace Go.Vm
open Go.RowKit Go.Vm.Gain
end Go.Vm




/- VehiclesReady: what was shown of common functions, under this seat's numbers (renum.py). Own work. -/
namespace Go.Vm
open Go.Proofs
end Go.Vm
/- Charging: what is gained, and how long it takes. Plain law. Own work. -/
namespace Go.Vm.Gain
end Go.Vm.Gain

/- What the functions of BatteriesGain come to. Own work. -/
namespace Go.Vm
open Go.RowKit
end Go.Vm

/- Lists that are checked. Own work. -/
namespace Go.Vm
open Go.RowKit
end Go.Vm

/- What is gained, as the reference reckons it. Own work. -/
namespace Go.Vm
open Go.RowKit Go.Vm.Gain
end Go.Vm

/- Shifts: what is wrong with them, and whose each one is. Own work. -/
namespace Go.Vm
open Go.RowKit Go.Vm.Gain
end Go.Vm

/- Needs by halving; the law. Own work. -/
namespace Go.Vm
open Go.RowKit Go.Vm.Gain
end Go.Vm

/- LevelsReckoned: what is wrong with trips and charges. Own work. -/
namespace Go.Vm
open Go.RowKit Go.Vm.Gain
end Go.Vm

/- LevelsReckoned: what happens to a level. Own work. -/
namespace Go.Vm
open Go.RowKit Go.Vm.Gain
section
variable {α γ ρ : Type}
end
end Go.Vm

/- LevelsReckoned: levels. Own work. -/
namespace Go.Vm
open Go.RowKit Go.Vm.Gain
end Go.Vm

/- LevelsReckoned, the law. Own work. -/
namespace Go.Vm
open Go.RowKit Go.Vm.Gain
end Go.Vm

/- ShiftsCovered: small functions; drivers and rosters. Own work. -/
namespace Go.Vm
open Go.RowKit Go.Vm.Gain
end Go.Vm



/- RidesAskedTwice: rides, rooms. Own work. -/
namespace Go.Vm
open Go.RowKit Go.Vm.Gain
end Go.Vm



/- Words, numbers, lines (shown at other seats before; renumbered). Own work. -/
set_option linter.unusedVariables false
set_option linter.unusedSimpArgs false
set_option maxRecDepth 100000
namespace Go.Vm
open Go.RowKit
theorem h66 (l : List Int) (hw : WFs A66 (l, ())) : ∃ k, f66 k l = some (s66 l, ()) := by
  simp only [WFs, WF] at hw
  refine ⟨l.length + 1, ?_⟩
  unfold f66
  rw [iter_scan0 (β := Unit) l (fun j _ => (((j : Int), ()), ())) (fun _ x _ => nzBody x) (fun _ => .inr ((), ())) () ?hs ?hk ?h1 ?h2]
  · exact nz_scan l 0
  case hs => rfl
  case hk => exact Nat.lt_succ_self _
  · intro j x b hx
    simp only [lt_at hx, inR_at hx, rd_at hx, wrap_succ hx hw.1.1, cond_true, nzBody]
    cases (x != 0) <;> rfl
  · intro b
    simp
end Go.Vm

namespace Go.Vm.Gain
end Go.Vm.Gain

/- What the functions of BatteriesGain come to. Own work. -/
namespace Go.Vm
open Go.RowKit
end Go.Vm

/- Lists that are checked. Own work. -/
namespace Go.Vm
open Go.RowKit
end Go.Vm

/- Needs by halving; the law. Own work. -/
namespace Go.Vm
open Go.RowKit Go.Vm.Gain
end Go.Vm

/- LevelsReckoned: what is wrong with trips and charges. Own work. -/
namespace Go.Vm
open Go.RowKit Go.Vm.Gain
end Go.Vm

/- LevelsReckoned, the law. Own work. -/
namespace Go.Vm
open Go.RowKit Go.Vm.Gain
end Go.Vm

/- ShiftsCovered: the law. Own work. -/
namespace Go.Vm
open Go.RowKit Go.Vm.Gain
end Go.Vm

/- DeedsMerge: small functions; what is wrong with a deed; their order. Own work. -/
namespace Go.Vm
open Go.RowKit Go.Vm.Gain
theorem sEq_self (a : ByteArray) : sEq a a = true := sEq_iff.2 rfl
def s67 (a b : ByteArray) : Int := cmpS a b
theorem h67 (a b : ByteArray) (hw : WFs A67 (a, b, ())) : ∃ k, f67 s83 k a b = some (s67 a b, ()) := ⟨0, rfl⟩
end Go.Vm

/- DeedsMerge: what is wrong with deeds. Own work. -/
namespace Go.Vm
open Go.RowKit Go.Vm.Gain
section
variable {α : Type}
def ordP (ord : α → α → Bool) (p : Option α) (x : α) : Bool := match p with | none => false | some o => ord o x
/-- each by itself, and with the one before -/
def chkP (bad : α → Int) (ord : α → α → Bool) : Option α → List α → Int
  | _, [] => 0
  | p, x :: l => bif bad x != 0 then bad x else bif ordP ord p x then 7 else chkP bad ord (some x) l
def chkPB (bad : α → Int) (ord : α → α → Bool) (x : α) (p : Option α) : Option α ⊕ ((Int × Unit) ⊕ (Unit × Unit)) :=
  bif bad x != 0 then .inr (.inl (bad x, ())) else bif ordP ord p x then .inr (.inl (7, ())) else .inl (some x)
theorem chkP_scan (bad : α → Int) (ord : α → α → Bool) : ∀ (l : List α) (j : Nat) (p : Option α), scan (fun _ => chkPB bad ord) (fun _ => .inr ((), ())) l j p = bif chkP bad ord p l != 0 then .inl (chkP bad ord p l, ()) else .inr ((), ())
  | [], j, p => rfl
  | x :: l, j, p => by
    simp only [scan, chkPB, chkP]
    cases h : bad x != 0
    · simp only [cond_false]
      cases h2 : ordP ord p x
      · simp only [cond_false]
        exact chkP_scan bad ord l (j + 1) (some x)
      · rfl
    · simp only [cond_true, h]
/-- the one before -/
def PJ (xs : List α) (j : Nat) (p : Option α) : Prop := (j = 0 ∧ p = none) ∨ ∃ o, 0 < j ∧ xs[j - 1]? = some o ∧ p = some o
theorem iter_chkP {xs : List α} {f : (Int × Unit) × Unit → Option (((Int × Unit) × Unit) ⊕ ((Int × Unit) ⊕ (Unit × Unit)))} (bad : α → Int) (ord : α → α → Bool)
    (h1 : ∀ (j : Nat) (x : α) (p : Option α), xs[j]? = some x → PJ xs j p → f (((j : Int), ()), ()) = some (match chkPB bad ord x p with | .inl _ => .inl ((((j + 1 : Nat) : Int), ()), ()) | .inr t => .inr t))
    (h2 : f (((xs.length : Int), ()), ()) = some (.inr (.inr ((), ())))) :
    iter (xs.length + 1) f (((0 : Int), ()), ()) = some (bif chkP bad ord none xs != 0 then .inl (chkP bad ord none xs, ()) else .inr ((), ())) := by
  rw [iter_scanI (s0 := (((0 : Int), ()), ())) (k := xs.length + 1) (β := Option α) xs (fun j _ => (((j : Int), ()), ())) (fun _ => chkPB bad ord) (fun _ => .inr ((), ())) (PJ xs) none (.inl ⟨rfl, rfl⟩) rfl (Nat.lt_succ_self _) ?_ ?_ (fun _ _ => h2), chkP_scan]
  · intro j x b b' hx _ h
    refine .inr ⟨x, Nat.succ_pos _, by simpa using hx, ?_⟩
    unfold chkPB at h
    cases h3 : bad x != 0 <;> rw [h3] at h
    · cases h4 : ordP ord b x <;> rw [h4] at h
      · cases h; rfl
      · cases h
    · cases h
  · intro j x b hx hJ
    rw [h1 j x b hx hJ]
    cases chkPB bad ord x b <;> rfl
theorem chkP_congr {bad : α → Int} {o1 o2 : α → α → Bool} (h : ∀ o x, bad o = 0 → bad x = 0 → o1 o x = o2 o x) : ∀ (l : List α) (p : Option α), (∀ o, p = some o → bad o = 0) → chkP bad o1 p l = chkP bad o2 p l
  | [], p, _ => rfl
  | x :: l, p, hp => by
    simp only [chkP]
    cases hb : bad x != 0
    · have hx : bad x = 0 := by simpa using hb
      have : ordP o1 p x = ordP o2 p x := by
        cases p with
        | none => rfl
        | some o => exact h o x (hp o rfl) hx
      rw [this, chkP_congr h l (some x) (fun o e => by cases e; exact hx)]
    · rfl
end
section
variable {α κ : Type} {eq : κ → κ → Bool} (heq : ∀ a b, eq a b = true ↔ a = b) (nm : α → κ)
end
end Go.Vm

/- DeedsMerge: the reference's merge, and writing. Own work. -/
namespace Go.Vm
open Go.RowKit Go.Vm.Gain
end Go.Vm

/- RatingsScored: small functions; what is wrong with ratings, and with people. Own work. -/
namespace Go.Vm
open Go.RowKit Go.Vm.Gain
theorem less_cmp : ∀ a b : List UInt8, Op.bytesLess a b = decide (Lib.compareBytes a b < 0)
  | [], [] => rfl
  | [], _ :: _ => rfl
  | _ :: _, [] => rfl
  | a :: x, b :: y => by
    simp only [Op.bytesLess, Lib.compareBytes]
    by_cases h : a < b
    · simp [h]
    · by_cases h2 : b < a
      · have : (a == b) = false := by
          rw [beq_eq_false_iff_ne]
          rintro rfl
          exact h h2
        simp [h, h2, this]
      · have : a = b := by
          rw [UInt8.lt_iff_toNat_lt] at h h2
          exact UInt8.toNat_inj.1 (by omega)
        subst this
        simp [h, less_cmp x y]
theorem sLt_cmp (a b : ByteArray) : sLt a b = decide (cmpS a b < 0) := by
  unfold sLt cmpS
  rw [ByteArray.toList_eq, ByteArray.toList_eq, less_cmp]
theorem cmp_vals : ∀ a b : List UInt8, Lib.compareBytes a b = -1 ∨ Lib.compareBytes a b = 0 ∨ Lib.compareBytes a b = 1
  | [], [] => by simp [Lib.compareBytes]
  | [], _ :: _ => by simp [Lib.compareBytes]
  | _ :: _, [] => by simp [Lib.compareBytes]
  | a :: x, b :: y => by
    simp only [Lib.compareBytes]
    have := cmp_vals x y
    split
    · simp
    · split
      · simp
      · exact this
theorem cmpS_vals (a b : ByteArray) : cmpS a b = -1 ∨ cmpS a b = 0 ∨ cmpS a b = 1 := cmp_vals _ _
end Go.Vm

/- RatingsScored: ratings of two lists. Own work. -/
namespace Go.Vm
open Go.RowKit Go.Vm.Gain
end Go.Vm

/- RatingsScored: fractions. Own work. -/
namespace Go.Vm
open Go.RowKit Go.Vm.Gain
end Go.Vm

/- RatingsScored: the ratings that count, and their sums. Own work. -/
namespace Go.Vm
open Go.RowKit Go.Vm.Gain
end Go.Vm

/- RatingsScored: scores. Own work. -/
namespace Go.Vm
open Go.RowKit Go.Vm.Gain
end Go.Vm

/- RatingsScored: people by their scores. Own work. -/
namespace Go.Vm
open Go.RowKit Go.Vm.Gain
end Go.Vm



/- OfferTexts: offers, written and read. Own work. -/
set_option linter.unusedVariables false
set_option linter.unusedSimpArgs false
set_option maxRecDepth 100000
namespace Go.Vm.Gain
end Go.Vm.Gain

namespace Go.Vm
open Go.RowKit
end Go.Vm

namespace Go.Vm
open Go.RowKit
end Go.Vm

namespace Go.Vm
open Go.RowKit Go.Vm.Gain
end Go.Vm

namespace Go.Vm
open Go.RowKit Go.Vm.Gain
end Go.Vm

namespace Go.Vm
open Go.RowKit Go.Vm.Gain
end Go.Vm

namespace Go.Vm
open Go.RowKit Go.Vm.Gain
end Go.Vm

namespace Go.Vm
open Go.RowKit Go.Vm.Gain
end Go.Vm

namespace Go.Vm
open Go.RowKit Go.Vm.Gain
section
variable {α : Type}
end
section
variable {α κ : Type} {eq : κ → κ → Bool} (heq : ∀ a b, eq a b = true ↔ a = b) (nm : α → κ)
end
end Go.Vm

namespace Go.Vm
open Go.RowKit Go.Vm.Gain
end Go.Vm

namespace Go.Vm
open Go.RowKit Go.Vm.Gain
def s79 (a : ByteArray) : Bool := false
theorem h79 (a : ByteArray) (hw : WFs A79 (a, ())) : ∃ k, f79 k a = some (s79 a, ()) := ⟨0, by
  unfold f79 s79
  rw [sEq_self]
  rfl⟩
def s56 (a b : ByteArray) : Int := cmpS a b
theorem h56 (a b : ByteArray) (hw : WFs A56 (a, b, ())) : ∃ k, f56 s79 k a b = some (s56 a b, ()) := ⟨0, by
  unfold f56 s56 s79
  simp only [cond_false, sLt_cmp]
  have hs : sEq a b = decide (cmpS a b = 0) := by
    by_cases h : a = b
    · rw [sEq_iff.2 h, decide_eq_true (cmpS_zero.2 h)]
    · rw [decide_eq_false (fun e => h (cmpS_zero.1 e)), ← Bool.not_eq_true]
      exact fun e => h (sEq_iff.1 e)
  rw [hs]
  rcases cmpS_vals a b with h | h | h <;> rw [h] <;> rfl⟩
/-- the comparison of two lists -/
def cmpL : List ByteArray → List ByteArray → Int
  | [], [] => 0
  | [], _ :: _ => -1
  | _ :: _, [] => 1
  | x :: l, y :: m => if cmpS x y = 0 then cmpL l m else cmpS x y
def s33 (a b : List ByteArray) : Int := cmpL a b
def cmpLB (b : List ByteArray) (j : Nat) (x : ByteArray) (_ : Unit) : Unit ⊕ ((Int × Unit) ⊕ (Unit × Unit)) :=
  match b[j]? with
  | none => .inr (.inl (1, ()))
  | some y => bif cmpS x y != 0 then .inr (.inl (cmpS x y, ())) else .inl ()
theorem cmpL_scan (b : List ByteArray) (n : Nat) : ∀ (l : List ByteArray) (j : Nat), j + l.length = n →
    (match scan (cmpLB b) (fun _ => .inr ((), ())) l j () with | .inl z => some z | .inr _ => bif decide ((n : Int) < (b.length : Int)) then some ((-1 : Int), ()) else some ((0 : Int), ())) = some (cmpL l (b.drop j), ())
  | [], j, hj => by
    simp only [scan]
    have hj : j = n := by simpa using hj
    subst hj
    by_cases h : j < b.length
    · rw [decide_eq_true (by omega), List.drop_eq_getElem_cons h]
      rfl
    · rw [decide_eq_false (by omega), List.drop_eq_nil_of_le (by omega)]
      rfl
  | x :: l, j, hj => by
    simp only [scan, cmpLB]
    by_cases h : j < b.length
    · rw [List.getElem?_eq_getElem h, List.drop_eq_getElem_cons h]
      simp only [cmpL]
      by_cases h0 : cmpS x b[j] = 0
      · rw [show (cmpS x b[j] != 0) = false from by simp [h0], if_pos h0]
        exact cmpL_scan b n l (j + 1) (by simp at hj ⊢; omega)
      · rw [show (cmpS x b[j] != 0) = true from by simpa using h0, if_neg h0]
        rfl
    · rw [List.getElem?_eq_none (by omega), List.drop_eq_nil_of_le (by omega)]
      rfl
theorem h33 (a b : List ByteArray) (hw : WFs A33 (a, b, ())) : ∃ k, f33 s56 k a b = some (s33 a b, ()) := by
  simp only [WFs, WF] at hw
  have hl : a.length ≤ 9223372036854775807 := hw.1.1
  clear hw
  refine ⟨a.length + 1, ?_⟩
  unfold f33 s33
  rw [iter_scan0 (s0 := (((0 : Int), ()), ())) a (fun j _ => (((j : Int), ()), ())) (cmpLB b) (fun _ => .inr ((), ())) () rfl (Nat.lt_succ_self _) ?a1 ?a2]
  case a2 => simp
  case a1 =>
    intro j x u hx
    simp only [lt_at hx, inR_at hx, rd_at hx, wrap_succ hx hl, cond_true, cmpLB]
    by_cases h : j < b.length
    · have hy : b[j]? = some b[j] := List.getElem?_eq_getElem h
      rw [decide_eq_false (by omega), cond_false, inR_at hy, cond_true, rd_at hy, hy]
      simp only [s56]
      cases cmpS x b[j] != 0 <;> rfl
    · rw [decide_eq_true (by omega), List.getElem?_eq_none (by omega)]
      rfl
  have := cmpL_scan b a.length a 0 (by simp)
  rw [List.drop_zero] at this
  exact this
end Go.Vm

namespace Go.Vm
open Go.RowKit Go.Vm.Gain
end Go.Vm

namespace Go.Vm
open Go.RowKit Go.Vm.Gain
end Go.Vm

namespace Go.Vm
open Go.RowKit Go.Vm.Gain
end Go.Vm

namespace Go.Vm
open Go.RowKit Go.Vm.Gain
end Go.Vm

namespace Go.Vm
open Go.RowKit Go.Vm.Gain
end Go.Vm


namespace Go.Vm
open Go.RowKit
abbrev Ofr : Type := ByteArray × ByteArray × Int × Unit
def oCmp : Ofr → Ofr → Int := lexC (fun a b => cmpS a.1 b.1) (fun a b => cmpS a.2.1 b.2.1)
theorem oCmp_ok : CmpOK oCmp (fun _ => True) := (cmpS_ok.on fun a : Ofr => a.1).lex (cmpS_ok.on fun a : Ofr => a.2.1)
theorem nz_two (a b : Int) : nz [a, b] = if a = 0 then b else a := by
  simp only [nz]
  by_cases ha : a = 0
  · by_cases hb : b = 0 <;> simp [ha, hb]
  · simp [ha]
def s46 (a b : Ofr) : Int := oCmp a b
theorem h46 (a b : Ofr) (hw : WFs A46 (a, b, ())) : ∃ k, f46 s66 s67 k a b = some (s46 a b, ()) := ⟨0, by
  unfold f46 s46 oCmp lexC s66 s67
  rw [nz_two]⟩
def s42 (a b : Ofr) : Int := oCmp a b
theorem h42 (a b : Ofr) (hw : WFs A42 (a, b, ())) : ∃ k, f42 s33 k a b = some (s42 a b, ()) := ⟨0, by
  unfold f42 s33 s42 oCmp lexC
  simp only [cmpL]
  by_cases h : cmpS a.1 b.1 = 0
  · rw [if_pos h, if_pos h]
    by_cases h2 : cmpS a.2.1 b.2.1 = 0
    · rw [if_pos h2, h2]
    · rw [if_neg h2]
  · rw [if_neg h, if_neg h]⟩
def oBad (o : Ofr) : Int := bif !key o.1 then 5 else bif !key o.2.1 then 5 else bif s35 o.2.2.1 0 1000000000 then 1 else 0
def ofrsFault (l : List Ofr) : Int := if l.length > 2000 then 2 else chkP oBad (fun o x => decide (oCmp x o ≤ 0)) none l
def s21 (l : List Ofr) : Int := ofrsFault l
def s19 (l : List Ofr) : Int := ofrsFault l
theorem chk_end (c : Int) : (match (bif c != 0 then (Sum.inl (c, ()) : (Int × Unit) ⊕ (Unit × Unit)) else .inr ((), ())) with | .inl z => some z | .inr _ => some ((0 : Int), ())) = some (c, ()) := by
  cases h : c != 0
  · have : c = 0 := by simpa using h
    rw [this]; rfl
  · rfl
theorem h21 (l : List Ofr) (hw : WFs A21 (l, ())) : ∃ k, f21 s34 s35 s46 k l = some (s21 l, ()) := by
  simp only [WFs, WF] at hw
  have hl : l.length ≤ 9223372036854775807 := hw.1.1
  clear hw
  refine ⟨l.length + 1, ?_⟩
  unfold f21 s21 ofrsFault
  rw [show (2000 : Int) = ((2000 : Nat) : Int) from rfl, len_gt]
  by_cases hn : l.length > 2000
  · simp [hn]
  · simp only [hn, decide_false, cond_false, if_false]
    rw [iter_chkP (xs := l) oBad (fun o x => decide (oCmp x o ≤ 0)) ?a1 ?a2]
    case a2 => simp
    case a1 =>
      intro j x p hx hp
      have ek : s34 = key := rfl
      simp only [lt_at hx, inR_at hx, rd_at hx, wrap_succ hx hl, cond_true, chkPB, ordP, ek, oBad]
      cases key x.1
      · rfl
      cases key x.2.1
      · rfl
      cases s35 x.2.2.1 0 1000000000
      rotate_left
      · rfl
      rcases hp with ⟨rfl, rfl⟩ | ⟨o, hj, ho, rfl⟩
      · rfl
      · have e0 : decide (((j : Nat) : Int) > 0) = true := by simp; omega
        simp only [e0, prev_ix hl hj ho, inR_at ho, rd_at ho, cond_true, s46]
        cases decide (oCmp x o ≤ 0) <;> rfl
    exact chk_end _
theorem h19 (l : List Ofr) (hw : WFs A19 (l, ())) : ∃ k, f19 s31 s32 s42 k l = some (s19 l, ()) := by
  simp only [WFs, WF] at hw
  have hl : l.length ≤ 9223372036854775807 := hw.1.1
  clear hw
  refine ⟨l.length + 1, ?_⟩
  unfold f19 s19 ofrsFault
  rw [show (2000 : Int) = ((2000 : Nat) : Int) from rfl, len_gt]
  by_cases hn : l.length > 2000
  · simp [hn]
  · simp only [hn, decide_false, cond_false, if_false]
    rw [iter_chkP (xs := l) oBad (fun o x => decide (oCmp o x ≥ 0)) ?a1 ?a2]
    case a2 => simp
    case a1 =>
      intro j x p hx hp
      have ek : s31 = key := rfl
      simp only [lt_at hx, inR_at hx, rd_at hx, wrap_succ hx hl, cond_true, chkPB, ordP, ek, in_out, Bool.not_not, oBad]
      cases key x.1
      · rfl
      cases key x.2.1
      · rfl
      cases s35 x.2.2.1 0 1000000000
      rotate_left
      · rfl
      rcases hp with ⟨rfl, rfl⟩ | ⟨o, hj, ho, rfl⟩
      · rfl
      · have e0 : decide (((j : Nat) : Int) > 0) = true := by simp; omega
        simp only [e0, prev_ix hl hj ho, inR_at ho, rd_at ho, cond_true, s42]
        cases decide (oCmp o x ≥ 0) <;> rfl
    rw [chkP_congr (o1 := fun o x => decide (oCmp o x ≥ 0)) (o2 := fun o x => decide (oCmp x o ≤ 0)) (fun o x _ _ => by
      congr 1
      apply propext
      exact (oCmp_ok.flip_le trivial trivial).symm) l none (fun o e => by cases e)]
    exact chk_end _
end Go.Vm
