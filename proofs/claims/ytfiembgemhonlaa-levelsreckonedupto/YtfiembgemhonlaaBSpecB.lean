/- Lists that are checked. Own work. -/
import Derived.Test.YtfiembgemhonlaaBSpec
set_option linter.unusedVariables false
set_option linter.unusedSimpArgs false
namespace Go.Vm
open Go.RowKit
def leS (a b : ByteArray) : Bool := sLt a b || sEq a b
/-- what is wrong with a list in the order of its keys -/
def chk {α : Type} (kf : α → ByteArray) (φ : α → Int) : Option ByteArray → List α → Int
  | _, [] => 0
  | p, x :: l => bif !key (kf x) then 5 else bif (match p with | none => false | some q => leS (kf x) q) then 7 else bif φ x != 0 then φ x else chk kf φ (some (kf x)) l
def prevK {α : Type} (kf : α → ByteArray) (xs : List α) (j : Nat) : Option ByteArray := if j = 0 then none else (xs[j - 1]?).map kf
def chkBody {α : Type} (kf : α → ByteArray) (φ : α → Int) (xs : List α) (j : Nat) (x : α) (_ : Unit) : Unit ⊕ ((Int × Unit) ⊕ (Unit × Unit)) :=
  bif !key (kf x) then .inr (.inl (5, ())) else bif (match prevK kf xs j with | none => false | some q => leS (kf x) q) then .inr (.inl (7, ())) else bif φ x != 0 then .inr (.inl (φ x, ())) else .inl ()
theorem chk_scan {α : Type} (kf : α → ByteArray) (φ : α → Int) (xs : List α) : ∀ (l : List α) (j : Nat), xs.drop j = l →
    (match scan (chkBody kf φ xs) (fun _ => .inr ((), ())) l j () with | .inl z => some z | .inr _ => some ((0 : Int), ())) = some (chk kf φ (prevK kf xs j) l, ())
  | [], j, hl => rfl
  | x :: l, j, hl => by
    have hx : xs[j]? = some x := by rw [← List.head?_drop, hl]; rfl
    have hl' : xs.drop (j + 1) = l := by rw [← List.drop_drop, hl]; rfl
    simp only [scan, chk, chkBody]
    cases !key (kf x)
    · simp only [cond_false]
      generalize (match prevK kf xs j with | none => false | some q => leS (kf x) q) = b
      cases b
      · simp only [cond_false]
        cases φ x != 0
        · simp only [cond_false]
          have := chk_scan kf φ xs l (j + 1) hl'
          have hp : prevK kf xs (j + 1) = some (kf x) := by simp [prevK, hx]
          rw [hp] at this
          exact this
        · rfl
      · rfl
    · rfl
/-- .. as the reference goes: with the last key -/
def chkLast {α : Type} (kf : α → ByteArray) (φ : α → Int) : ByteArray → List α → Int
  | _, [] => 0
  | p, x :: l => bif !key (kf x) then 5 else bif leS (kf x) p then 7 else bif φ x != 0 then φ x else chkLast kf φ (kf x) l
theorem chkLast_eq {α : Type} (kf : α → ByteArray) (φ : α → Int) : ∀ (l : List α) (p : ByteArray), chkLast kf φ p l = chk kf φ (some p) l
  | [], p => rfl
  | x :: l, p => by simp only [chkLast, chk, chkLast_eq kf φ l]
theorem leS_empty {s : ByteArray} (h : key s = true) : leS s (ByteArray.mk #[]) = false := by
  unfold leS
  rw [sEq_empty]
  unfold sLt
  rw [ByteArray.toList_eq, ByteArray.toList_eq]
  unfold key keyL at h
  cases hl : s.data.toList with
  | nil => rw [hl] at h; simp at h
  | cons b l => rfl
theorem chkLast_first {α : Type} (kf : α → ByteArray) (φ : α → Int) (l : List α) : chkLast kf φ (ByteArray.mk #[]) l = chk kf φ none l := by
  cases l with
  | nil => rfl
  | cons x l =>
    simp only [chkLast, chk]
    cases hk : key (kf x)
    · rfl
    · simp only [leS_empty hk, Bool.not_true, cond_false, chkLast_eq]
def lastBody {α : Type} (kf : α → ByteArray) (φ : α → Int) (_ : Nat) (x : α) (p : ByteArray) : ByteArray ⊕ ((Int × Unit) ⊕ (Unit × Unit)) :=
  bif !key (kf x) then .inr (.inl (5, ())) else bif leS (kf x) p then .inr (.inl (7, ())) else bif φ x != 0 then .inr (.inl (φ x, ())) else .inl (kf x)
theorem last_scan {α : Type} (kf : α → ByteArray) (φ : α → Int) : ∀ (l : List α) (j : Nat) (p : ByteArray),
    (match scan (lastBody kf φ) (fun _ => .inr ((), ())) l j p with | .inl z => some z | .inr _ => some ((0 : Int), ())) = some (chkLast kf φ p l, ())
  | [], j, p => rfl
  | x :: l, j, p => by
    simp only [scan, chkLast, lastBody]
    cases !key (kf x)
    · simp only [cond_false]
      cases leS (kf x) p
      · simp only [cond_false]
        cases φ x != 0
        · exact last_scan kf φ l (j + 1) (kf x)
        · rfl
      · rfl
    · rfl
theorem prev_at {α : Type} {xs : List α} {j : Nat} {x : α} (h : xs[j]? = some x) (hl : xs.length ≤ 9223372036854775807) (hj : j ≠ 0) : ∃ y, xs[j - 1]? = some y ∧ IntKind.i64.wrap ((j : Int) - 1) = ((j - 1 : Nat) : Int) := by
  have := (List.getElem?_eq_some_iff.1 h).1
  refine ⟨xs[j - 1], List.getElem?_eq_getElem (by omega), ?_⟩
  rw [wrap_ok (by omega) (by omega)]; omega
/-! ### vehicles, places -/
abbrev Veh := ByteArray × Int × Int × Int × Int × Unit
abbrev Plc := ByteArray × Int × Int × Unit
def vehBad (v : Veh) : Int := bif s114 v.2.1 1 1000000 then 1 else bif s114 v.2.2.1 0 v.2.1 then 1 else bif s114 v.2.2.2.1 1 1000000 then 1 else bif s114 v.2.2.2.2.1 0 1000 then 1 else 0
def plcBad (v : Plc) : Int := bif s114 v.2.1 1 50 then 1 else bif s114 v.2.2.1 1 1000000 then 1 else 0
def vehsFault (l : List Veh) : Int := if l.length > 200 then 2 else chk (·.1) vehBad none l
def plcsFault (l : List Plc) : Int := if l.length > 50 then 2 else chk (·.1) plcBad none l
theorem len_gt {α : Type} (l : List α) (n : Nat) : decide ((l.length : Int) > (n : Int)) = decide (l.length > n) := by congr 1; apply propext; omega
def s12 := vehsFault
def s14 := vehsFault
def s15 := plcsFault
def s17 := plcsFault
theorem h12 (l : List Veh) (hw : WFs A12 (l, ())) : ∃ k, f12 s113 s114 k l = some (s12 l, ()) := by
  simp only [WFs, WF] at hw
  have hl := hw.1.1
  refine ⟨l.length + 1, ?_⟩
  unfold f12 s12 vehsFault
  rw [show (200 : Int) = ((200 : Nat) : Int) from rfl, len_gt]
  by_cases hn : l.length > 200
  · simp [hn]
  · simp only [hn, decide_false, cond_false, if_false]
    rw [iter_scan0 (β := Unit) l (fun j _ => (((j : Int), ()), ())) (chkBody (·.1) vehBad l) (fun _ => .inr ((), ())) () ?hs ?hk ?h1 ?h2]
    case hs => rfl
    case hk => exact Nat.lt_succ_self _
    · exact chk_scan (·.1) vehBad l l 0 rfl
    · intro j x b hx
      simp only [lt_at hx, inR_at hx, rd_at hx, wrap_succ hx hl, cond_true, chkBody, s113]
      cases !key x.1
      · simp only [cond_false]
        by_cases hj : j = 0
        · subst hj
          have : decide (((0 : Nat) : Int) > 0) = false := by decide
          simp only [this, cond_false, Option.bind_some, prevK, if_true, vehBad]
          cases s114 x.2.1 1 1000000 <;> cases s114 x.2.2.1 0 x.2.1 <;> cases s114 x.2.2.2.1 1 1000000 <;> cases s114 x.2.2.2.2.1 0 1000 <;> rfl
        · obtain ⟨y, hy, hwr⟩ := prev_at hx hl hj
          have : decide ((j : Int) > 0) = true := by simp; omega
          simp only [this, cond_true, hwr, inR_at hy, rd_at hy, Option.bind_some, prevK, hj, if_false, hy, Option.map_some, leS]
          cases (sLt x.1 y.1 || sEq x.1 y.1)
          · simp only [cond_false, vehBad]
            cases s114 x.2.1 1 1000000 <;> cases s114 x.2.2.1 0 x.2.1 <;> cases s114 x.2.2.2.1 1 1000000 <;> cases s114 x.2.2.2.2.1 0 1000 <;> rfl
          · rfl
      · rfl
    · intro b
      simp
theorem h14 (l : List Veh) (hw : WFs A14 (l, ())) : ∃ k, f14 s31 s115 k l = some (s14 l, ()) := by
  simp only [WFs, WF] at hw
  have hl := hw.1.1
  refine ⟨l.length + 1, ?_⟩
  unfold f14 s14 vehsFault
  rw [show (200 : Int) = ((200 : Nat) : Int) from rfl, len_gt]
  by_cases hn : l.length > 200
  · simp [hn]
  · simp only [hn, decide_false, cond_false, if_false]
    rw [iter_scan0 (β := ByteArray) l (fun j b => ((b, (j : Int), ()), ())) (lastBody (·.1) vehBad) (fun _ => .inr ((), ())) (ByteArray.mk #[]) ?hs ?hk ?h1 ?h2]
    case hs => rfl
    case hk => exact Nat.lt_succ_self _
    · rw [← chkLast_first]
      exact last_scan (·.1) vehBad l 0 _
    · intro j x b hx
      simp only [lt_at hx, inR_at hx, rd_at hx, wrap_succ hx hl, cond_true, lastBody, s31, in_out, leS]
      cases !key x.1
      · simp only [cond_false]
        cases (sLt x.1 b || sEq x.1 b)
        · simp only [cond_false, vehBad]
          cases s114 x.2.1 1 1000000 <;> cases s114 x.2.2.1 0 x.2.1 <;> cases s114 x.2.2.2.1 1 1000000 <;> cases s114 x.2.2.2.2.1 0 1000 <;> rfl
        · rfl
      · rfl
    · intro b
      simp
theorem h15 (l : List Plc) (hw : WFs A15 (l, ())) : ∃ k, f15 s113 s114 k l = some (s15 l, ()) := by
  simp only [WFs, WF] at hw
  have hl := hw.1.1
  refine ⟨l.length + 1, ?_⟩
  unfold f15 s15 plcsFault
  rw [show ((50 : Int)) = ((50 : Nat) : Int) from rfl, len_gt]
  by_cases hn : l.length > 50
  · simp [hn]
  · simp only [hn, decide_false, cond_false, if_false]
    rw [iter_scan0 (β := Unit) l (fun j _ => (((j : Int), ()), ())) (chkBody (·.1) plcBad l) (fun _ => .inr ((), ())) () ?hs ?hk ?h1 ?h2]
    case hs => rfl
    case hk => exact Nat.lt_succ_self _
    · exact chk_scan (·.1) plcBad l l 0 rfl
    · intro j x b hx
      simp only [lt_at hx, inR_at hx, rd_at hx, wrap_succ hx hl, cond_true, chkBody, s113]
      cases !key x.1
      · simp only [cond_false]
        by_cases hj : j = 0
        · subst hj
          have : decide (((0 : Nat) : Int) > 0) = false := by decide
          simp only [this, cond_false, Option.bind_some, prevK, if_true, plcBad]
          cases s114 x.2.1 1 50 <;> cases s114 x.2.2.1 1 1000000 <;> rfl
        · obtain ⟨y, hy, hwr⟩ := prev_at hx hl hj
          have : decide ((j : Int) > 0) = true := by simp; omega
          simp only [this, cond_true, hwr, inR_at hy, rd_at hy, Option.bind_some, prevK, hj, if_false, hy, Option.map_some, leS]
          cases (sLt x.1 y.1 || sEq x.1 y.1)
          · simp only [cond_false, plcBad]
            cases s114 x.2.1 1 50 <;> cases s114 x.2.2.1 1 1000000 <;> rfl
          · rfl
      · rfl
    · intro b
      simp
theorem h17 (l : List Plc) (hw : WFs A17 (l, ())) : ∃ k, f17 s31 s115 k l = some (s17 l, ()) := by
  simp only [WFs, WF] at hw
  have hl := hw.1.1
  refine ⟨l.length + 1, ?_⟩
  unfold f17 s17 plcsFault
  rw [show ((50 : Int)) = ((50 : Nat) : Int) from rfl, len_gt]
  by_cases hn : l.length > 50
  · simp [hn]
  · simp only [hn, decide_false, cond_false, if_false]
    rw [iter_scan0 (β := ByteArray) l (fun j b => ((b, (j : Int), ()), ())) (lastBody (·.1) plcBad) (fun _ => .inr ((), ())) (ByteArray.mk #[]) ?hs ?hk ?h1 ?h2]
    case hs => rfl
    case hk => exact Nat.lt_succ_self _
    · rw [← chkLast_first]
      exact last_scan (·.1) plcBad l 0 _
    · intro j x b hx
      simp only [lt_at hx, inR_at hx, rd_at hx, wrap_succ hx hl, cond_true, lastBody, s31, in_out, leS]
      cases !key x.1
      · simp only [cond_false]
        cases (sLt x.1 b || sEq x.1 b)
        · simp only [cond_false, plcBad]
          cases s114 x.2.1 1 50 <;> cases s114 x.2.2.1 1 1000000 <;> rfl
        · rfl
      · rfl
    · intro b
      simp
end Go.Vm
