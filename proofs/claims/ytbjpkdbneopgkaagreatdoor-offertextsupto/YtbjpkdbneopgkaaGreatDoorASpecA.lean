/- Common functions of the text laws (shown at other seats before; renumbered). Own work. -/
import Derived.Test.YtbjpkdbneopgkaaGreatDoorAFn
import Derived.Test.YtbjpkdbneopgkaaGreatDoorAHand
import Derived.Test.YtbjpkdbneopgkaaGreatDoorVmQ
import Derived.Lib.Bytealg
set_option linter.unusedVariables false
set_option linter.unusedSimpArgs false
set_option maxRecDepth 100000
namespace Go.Vm
open Go.Proofs
end Go.Vm
/- Charging: what is gained, and how long it takes. Plain law. Own work. -/
namespace Go.Vm.Gain
/-- a / b rounded up -/
def cd (a b : Int) : Int := (a + b - 1).tdiv b
/-- how long it takes -/
def need (L S f g T : Int) : Int :=
  if L < S ∧ L < T then
    (if L + min (cd (S - L) f) (cd (T - L) f) * f < T then min (cd (S - L) f) (cd (T - L) f) + cd (T - (L + min (cd (S - L) f) (cd (T - L) f) * f)) g else min (cd (S - L) f) (cd (T - L) f))
  else (if L < T then 0 + cd (T - L) g else 0)
end Go.Vm.Gain

/- What the functions of BatteriesGain come to. Own work. -/
namespace Go.Vm
open Go.RowKit
/-! ### small ones -/
def s99 (a b c : Int) : Bool := decide (a < b) || decide (a > c)
theorem h99 (a b c : Int) (hw : WFs A99 (a, b, c, ())) : ∃ k, f99 k a b c = some (s99 a b c, ()) := by
  refine ⟨0, ?_⟩
  unfold f99 s99
  cases decide (a < b) <;> rfl
def s32 (a b c : Int) : Bool := decide (b ≤ a) && decide (a ≤ c)
theorem h32 (a b c : Int) (hw : WFs A32 (a, b, c, ())) : ∃ k, f32 k a b c = some (s32 a b c, ()) := by
  refine ⟨0, ?_⟩
  unfold f32 s32
  cases decide (b ≤ a) <;> rfl
theorem in_out (a b c : Int) : s32 a b c = !s99 a b c := by
  unfold s32 s99
  by_cases h : b ≤ a <;> by_cases h2 : a ≤ c <;> simp [h, h2] <;> omega
/-! ### the first that is not 0 -/
def nz : List Int → Int
  | [] => 0
  | x :: l => if x = 0 then nz l else x
def nzBody (x : Int) : Unit ⊕ ((Int × Unit) ⊕ (Unit × Unit)) := bif x != 0 then .inr (.inl (x, ())) else .inl ()
theorem nz_scan : ∀ (l : List Int) (j : Nat), (match scan (β := Unit) (fun _ x _ => nzBody x) (fun _ => .inr ((), ())) l j () with | .inl z => some z | .inr _ => some ((0 : Int), ())) = some (nz l, ())
  | [], j => rfl
  | x :: l, j => by
    by_cases h : x = 0
    · subst h
      simp only [scan, nzBody, nz, bne_self_eq_false, cond_false, if_true]
      exact nz_scan l (j + 1)
    · have : (x != 0) = true := by simpa using h
      simp only [scan, nzBody, nz, this, cond_true, h, if_false]
def s108 (l : List Int) : Int := nz l
/-! ### keys -/
def okc (b : UInt8) : Bool := (decide (97 ≤ b.toNat) && decide (b.toNat ≤ 122)) || (decide (48 ≤ b.toNat) && decide (b.toNat ≤ 57)) || b.toNat == 45 || b.toNat == 95
def lower (b : UInt8) : Bool := decide (97 ≤ b.toNat) && decide (b.toNat ≤ 122)
def keyL (l : List UInt8) : Bool := decide (1 ≤ l.length) && decide (l.length ≤ 40) && lower (l.headD 0) && l.all okc
def key (s : ByteArray) : Bool := keyL s.data.toList
theorem size_list (s : ByteArray) : s.size = s.data.toList.length := by rw [Array.length_toList]; rfl
theorem bt_at {s : ByteArray} {j : Nat} {b : UInt8} (h : s.data.toList[j]? = some b) : bt s (j : Int) = (b.toNat : Int) := by
  unfold bt
  have : s.data.getD j 0 = b := by
    rw [Array.getD_eq_getD_getElem?, ← Array.getElem?_toList, h]; rfl
  simp only [Int.toNat_natCast, this]
def allBody (b : UInt8) : Unit ⊕ ((Bool × Unit) ⊕ (Unit × Unit)) := bif okc b then .inl () else .inr (.inl (false, ()))
theorem all_scan (p : UInt8 → Bool) (body : UInt8 → Unit ⊕ ((Bool × Unit) ⊕ (Unit × Unit))) (hb : ∀ b, body b = bif p b then .inl () else .inr (.inl (false, ()))) : ∀ (l : List UInt8) (j : Nat), (match scan (β := Unit) (fun _ x _ => body x) (fun _ => .inr ((), ())) l j () with | .inl z => some z | .inr _ => some (true, ())) = some (l.all p, ())
  | [], j => rfl
  | x :: l, j => by
    simp only [scan, hb, List.all_cons]
    cases p x
    · rfl
    · simp only [cond_true, Bool.true_and]
      have := all_scan p body hb l (j + 1)
      simp only [hb] at this
      exact this
theorem h74 (s t : ByteArray) (hw : WFs A74 (s, t, ())) : ∃ k, f74 (fun s c => Lib.indexByte s.data.toList c.toNat.toUInt8) k s t = some (s.data.toList.all (fun b => t.data.toList.contains b), ()) := by
  simp only [WFs, WF] at hw
  refine ⟨s.data.toList.length + 1, ?_⟩
  unfold f74
  rw [iter_scan0 (β := Unit) s.data.toList (fun j _ => (((j : Int), ()), ())) (fun _ x _ => bif t.data.toList.contains x then .inl () else .inr (.inl (false, ()))) (fun _ => .inr ((), ())) () ?hs ?hk ?h1 ?h2]
  · exact all_scan _ _ (fun b => rfl) _ 0
  case hs => rfl
  case hk => exact Nat.lt_succ_self _
  · intro j x b hx
    have hs : s.data.toList.length ≤ 9223372036854775807 := by rw [← size_list]; exact hw.1
    simp only [size_list, lt_at hx, inR_at hx, bt_at hx, wrap_succ hx hs, cond_true]
    have : decide (Lib.indexByte t.data.toList (x.toNat : Int).toNat.toUInt8 < 0) = !t.data.toList.contains x := by
      have e : (x.toNat : Int).toNat.toUInt8 = x := by simp
      rw [e]
      generalize t.data.toList = l
      induction l with
      | nil => rfl
      | cons y l ih =>
        unfold Lib.indexByte
        have hge := Lib.indexByte_ge l x
        by_cases hyx : y = x
        · subst hyx; simp
        · have h1 : (y == x) = false := by simpa using hyx
          have h2 : (x == y) = false := by simpa using (fun h => hyx h.symm)
          simp only [h1, Bool.false_eq_true, if_false, List.contains_cons, h2, Bool.false_or]
          rw [← ih]
          by_cases h3 : Lib.indexByte l x = -1
          · simp [h3]
          · have : (Lib.indexByte l x == -1) = false := by simpa using h3
            simp only [this, Bool.false_eq_true, if_false]
            congr 1
            apply propext
            omega
    rw [this]
    cases t.data.toList.contains x <;> rfl
  · intro b
    rw [size_list]
    simp
def s103 (s : ByteArray) (c : Int) : Int := Lib.indexByte s.data.toList c.toNat.toUInt8
def s74 (s t : ByteArray) : Bool := s.data.toList.all (fun b => t.data.toList.contains b)
theorem h103 (s : ByteArray) (c : Int) (hw : WFs A103 (s, c, ())) : ∃ k, f103 s135 k s c = some (s103 s c, ()) := ⟨0, rfl⟩
def s98 (s : ByteArray) : Bool := key s
def s34 (s : ByteArray) : Bool := key s
theorem sEq_empty (s : ByteArray) : sEq s (ByteArray.mk #[]) = s.data.toList.isEmpty := by
  unfold sEq
  rw [ByteArray.toList_eq, ByteArray.toList_eq]
  cases s.data.toList <;> rfl
theorem all256 {p : UInt8 → Bool} (h : ∀ n : Fin 256, p (UInt8.ofNat n.1) = true) (b : UInt8) : p b = true := by
  have := h ⟨b.toNat, b.toNat_lt⟩
  simpa using this
theorem smalls_ok : ∀ b : UInt8, (([97, 98, 99, 100, 101, 102, 103, 104, 105, 106, 107, 108, 109, 110, 111, 112, 113, 114, 115, 116, 117, 118, 119, 120, 121, 122] : List UInt8).contains b == lower b) = true := all256 (by decide +kernel)
theorem chars_ok : ∀ b : UInt8, (([97, 98, 99, 100, 101, 102, 103, 104, 105, 106, 107, 108, 109, 110, 111, 112, 113, 114, 115, 116, 117, 118, 119, 120, 121, 122, 48, 49, 50, 51, 52, 53, 54, 55, 56, 57, 45, 95] : List UInt8).contains b == okc b) = true := all256 (by decide +kernel)
theorem h34 (s : ByteArray) (hw : WFs A34 (s, ())) : ∃ k, f34 s32 s74 k s = some (s34 s, ()) := by
  refine ⟨0, ?_⟩
  unfold f34 s34 key keyL s32 s74
  rw [size_list]
  have he : (s.extract (Int.toNat 0) (Int.toNat 1)).data.toList = s.data.toList.take 1 := by simp [ByteArray.data_extract]
  simp only [he]
  generalize s.data.toList = l
  have e1 : (fun b => ([97, 98, 99, 100, 101, 102, 103, 104, 105, 106, 107, 108, 109, 110, 111, 112, 113, 114, 115, 116, 117, 118, 119, 120, 121, 122] : List UInt8).contains b) = lower := funext fun b => by simpa using smalls_ok b
  have e2 : (fun b => ([97, 98, 99, 100, 101, 102, 103, 104, 105, 106, 107, 108, 109, 110, 111, 112, 113, 114, 115, 116, 117, 118, 119, 120, 121, 122, 48, 49, 50, 51, 52, 53, 54, 55, 56, 57, 45, 95] : List UInt8).contains b) = okc := funext fun b => by simpa using chars_ok b
  simp only [e1, e2]
  cases l with
  | nil => rfl
  | cons b l =>
    have h1 : decide ((1 : Int) ≤ ((b :: l).length : Int)) = true := by simp; omega
    have h2 : decide ((((b :: l).length : Nat) : Int) ≤ 40) = decide ((b :: l).length ≤ 40) := by congr 1; apply propext; omega
    have h3 : decide (1 ≤ (b :: l).length) = true := by simp
    simp only [h1, h2, h3, Bool.true_and]
    cases decide ((b :: l).length ≤ 40)
    · rfl
    · simp only [cond_true, Int.le_refl, decide_true, Bool.true_and, show decide ((0 : Int) ≤ 1) = true from rfl, List.take_succ_cons, List.take_zero, List.all_cons, List.all_nil, Bool.and_true, List.headD_cons]
      cases lower b <;> rfl
theorem h98 (s : ByteArray) (hw : WFs A98 (s, ())) : ∃ k, f98 k s = some (s98 s, ()) := by
  simp only [WFs, WF] at hw
  refine ⟨s.data.toList.length + 1, ?_⟩
  unfold f98 s98 key keyL
  rw [sEq_empty]
  cases hl : s.data.toList with
  | nil => rfl
  | cons b l =>
    have h0 : s.data.toList[0]? = some b := by rw [hl]; rfl
    have hb : bt s (0 : Int) = (b.toNat : Int) := bt_at h0
    have hin : inR (0 : Int) (s.size : Int) = true := by
      have := inR_at h0
      rw [← size_list] at this
      exact this
    rw [← hl]
    have hne : (s.data.toList).isEmpty = false := by rw [hl]; rfl
    have h1 : decide (1 ≤ s.data.toList.length) = true := by rw [hl]; simp
    have hh : s.data.toList.headD 0 = b := by rw [hl]; rfl
    have h2 : decide (((s.size : Nat) : Int) > 40) = !decide (s.data.toList.length ≤ 40) := by
      rw [size_list, ← decide_not]
      congr 1; apply propext; omega
    simp only [hne, h1, hh, h2, hin, hb, cond_false, cond_true, Bool.true_and]
    cases decide (s.data.toList.length ≤ 40)
    · rfl
    · simp only [Bool.not_true, cond_false, Bool.true_and]
      unfold lower
      have e1 : decide ((b.toNat : Int) < 97) = !decide (97 ≤ b.toNat) := by by_cases h : 97 ≤ b.toNat <;> simp [h] <;> omega
      have e2 : decide ((b.toNat : Int) > 122) = !decide (b.toNat ≤ 122) := by by_cases h : b.toNat ≤ 122 <;> simp [h] <;> omega
      rw [e1, e2]
      cases decide (97 ≤ b.toNat)
      · rfl
      · cases decide (b.toNat ≤ 122)
        · rfl
        · simp only [Bool.not_true, cond_false, Bool.true_and]
          rw [iter_scan0 (β := Unit) s.data.toList (fun j _ => (((j : Int), ()), ())) (fun _ x _ => allBody x) (fun _ => .inr ((), ())) () ?hs ?hk ?h1 ?h2]
          case hs => rfl
          case hk => exact Nat.lt_succ_self _
          · exact all_scan _ _ (fun b => rfl) _ 0
          · intro j x b hx
            have hs : s.data.toList.length ≤ 9223372036854775807 := by rw [← size_list]; exact hw.1
            simp only [size_list, lt_at hx, inR_at hx, bt_at hx, wrap_succ hx hs, cond_true]
            unfold allBody okc
            have a1 : decide ((x.toNat : Int) ≥ 97) = decide (97 ≤ x.toNat) := by congr 1; apply propext; omega
            have a2 : decide ((x.toNat : Int) ≤ 122) = decide (x.toNat ≤ 122) := by congr 1; apply propext; omega
            have a3 : decide ((x.toNat : Int) ≥ 48) = decide (48 ≤ x.toNat) := by congr 1; apply propext; omega
            have a4 : decide ((x.toNat : Int) ≤ 57) = decide (x.toNat ≤ 57) := by congr 1; apply propext; omega
            have a5 : ((x.toNat : Int) == 45) = (x.toNat == 45) := by rw [Bool.eq_iff_iff]; simp only [beq_iff_eq]; omega
            have a6 : ((x.toNat : Int) == 95) = (x.toNat == 95) := by rw [Bool.eq_iff_iff]; simp only [beq_iff_eq]; omega
            rw [a1, a2, a3, a4, a5, a6]
            cases decide (97 ≤ x.toNat) <;> cases decide (x.toNat ≤ 122) <;> cases decide (48 ≤ x.toNat) <;> cases decide (x.toNat ≤ 57) <;> cases (x.toNat == 45) <;> cases (x.toNat == 95) <;> rfl
          · intro b
            rw [size_list]
            simp
end Go.Vm

/- Lists that are checked. Own work. -/
namespace Go.Vm
open Go.RowKit
def leS (a b : ByteArray) : Bool := sLt a b || sEq a b
/-- what is wrong with a list in the order of its keys -/
def chk {α : Type} (kf : α → ByteArray) (φ : α → Int) : Option ByteArray → List α → Int
  | _, [] => 0
  | p, x :: l => bif !key (kf x) then 5 else bif (match p with | none => false | some q => leS (kf x) q) then 7 else bif φ x != 0 then φ x else chk kf φ (some (kf x)) l
/-! ### vehicles, places -/
theorem len_gt {α : Type} (l : List α) (n : Nat) : decide ((l.length : Int) > (n : Int)) = decide (l.length > n) := by congr 1; apply propext; omega
end Go.Vm

/- What is gained, as the reference reckons it. Own work. -/
namespace Go.Vm
open Go.RowKit Go.Vm.Gain
end Go.Vm

/- Shifts: what is wrong with them, and whose each one is. Own work. -/
namespace Go.Vm
open Go.RowKit Go.Vm.Gain
/-! ### whose each shift is -/
end Go.Vm

/- Needs by halving; the law. Own work. -/
namespace Go.Vm
open Go.RowKit Go.Vm.Gain
/-! ### one vehicle, one place -/
/-! ### drivers, at one input -/
end Go.Vm

/- LevelsReckoned: what is wrong with trips and charges. Own work. -/
namespace Go.Vm
open Go.RowKit Go.Vm.Gain
/-! ### moments -/
/-! ### trips -/
/-! ### charges -/
end Go.Vm

/- LevelsReckoned: what happens to a level. Own work. -/
namespace Go.Vm
open Go.RowKit Go.Vm.Gain
section
variable {α γ ρ : Type}
end
/-! ### the order -/
/-! ### the things that happen -/
/-! ### levels -/
end Go.Vm

/- LevelsReckoned: levels. Own work. -/
namespace Go.Vm
open Go.RowKit Go.Vm.Gain
/-! ### the program's -/
end Go.Vm

/- LevelsReckoned, the law. Own work. -/
namespace Go.Vm
open Go.RowKit Go.Vm.Gain
end Go.Vm

/- ShiftsCovered: small functions; drivers and rosters. Own work. -/
namespace Go.Vm
open Go.RowKit Go.Vm.Gain
/-! ### windows, rests, moments -/
/-! ### right shifts -/
/-! ### what the rosters are -/
end Go.Vm




/- VehiclesReady: what was shown of common functions, under this seat's numbers (renum.py). Own work. -/
namespace Go.Vm
open Go.Proofs
end Go.Vm
/- Charging: what is gained, and how long it takes. Plain law. Own work. -/
namespace Go.Vm.Gain
end Go.Vm.Gain

/- What the functions of BatteriesGain come to. Own work. -/
namespace Go.Vm
open Go.RowKit
/-! ### small ones -/
/-! ### the first that is not 0 -/
/-! ### keys -/
end Go.Vm

/- Lists that are checked. Own work. -/
namespace Go.Vm
open Go.RowKit
/-! ### vehicles, places -/
end Go.Vm

/- What is gained, as the reference reckons it. Own work. -/
namespace Go.Vm
open Go.RowKit Go.Vm.Gain
end Go.Vm

/- Shifts: what is wrong with them, and whose each one is. Own work. -/
namespace Go.Vm
open Go.RowKit Go.Vm.Gain
/-! ### whose each shift is -/
end Go.Vm

/- Needs by halving; the law. Own work. -/
namespace Go.Vm
open Go.RowKit Go.Vm.Gain
/-! ### one vehicle, one place -/
/-! ### drivers, at one input -/
end Go.Vm

/- LevelsReckoned: what is wrong with trips and charges. Own work. -/
namespace Go.Vm
open Go.RowKit Go.Vm.Gain
/-! ### moments -/
/-! ### trips -/
/-! ### charges -/
end Go.Vm

/- LevelsReckoned: what happens to a level. Own work. -/
namespace Go.Vm
open Go.RowKit Go.Vm.Gain
section
variable {α γ ρ : Type}
end
/-! ### the order -/
/-! ### the things that happen -/
/-! ### levels -/
end Go.Vm

/- LevelsReckoned: levels. Own work. -/
namespace Go.Vm
open Go.RowKit Go.Vm.Gain
/-! ### the program's -/
end Go.Vm

/- LevelsReckoned, the law. Own work. -/
namespace Go.Vm
open Go.RowKit Go.Vm.Gain
end Go.Vm

/- ShiftsCovered: small functions; drivers and rosters. Own work. -/
namespace Go.Vm
open Go.RowKit Go.Vm.Gain
/-! ### windows, rests, moments -/
/-! ### right shifts -/
/-! ### what the rosters are -/
end Go.Vm



/- RidesAskedTwice: rides, rooms. Own work. -/
namespace Go.Vm
open Go.RowKit Go.Vm.Gain
abbrev Rr : Type := ByteArray × ByteArray × ByteArray × ByteArray × Int × Int × Int × Int × Unit
/-! ### rooms -/
end Go.Vm
