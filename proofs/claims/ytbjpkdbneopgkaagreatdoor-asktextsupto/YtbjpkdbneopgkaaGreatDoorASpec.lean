/- AskTexts: the law. Own work. -/
import Derived.Test.YtbjpkdbneopgkaaGreatDoorASpecU
import Derived.Test.YtbjpkdbneopgkaaGreatDoorAGate
set_option maxRecDepth 100000
set_option linter.unusedVariables false
set_option linter.unusedSimpArgs false
namespace Go.Vm
open Go.RowKit Go.Vm.Num
theorem zip_none {α : Type} {ne : α → α → Bool} (hne : ∀ a b, ne a b = false ↔ a = b) : ∀ {a b : List α}, a.length = b.length → ((List.zip a b).findIdx? (fun q => ne q.1 q.2) = none ↔ a = b)
  | [], [], _ => by simp
  | [], _ :: _, h => by simp at h
  | _ :: _, [], h => by simp at h
  | x :: a, y :: b, h => by
    have ih := zip_none hne (a := a) (b := b) (by simpa using h)
    simp only [List.zip_cons_cons, List.findIdx?_cons, List.cons.injEq]
    cases hq : ne x y
    · have := (hne x y).1 hq
      simp only [Bool.false_eq_true, if_false, Option.map_eq_none_iff, ih, this, true_and]
    · have : x ≠ y := fun e => by rw [(hne x y).2 e] at hq; cases hq
      simp [this]
def askEq (a b : Ask) : Bool := keq AY1 a b
theorem askEq_iff (a b : Ask) : askEq a b = true ↔ a = b := keq_iff (K := AY1) rfl a b
open Classical in
noncomputable def s13 (a b : List Ask) : Bool := decide (a = b)
theorem ask_chain (a b : Ask) : ((a.1 == b.1) && ((a.2.1 == b.2.1) && (((sEq a.2.2.1.1 b.2.2.1.1) && ((sEq a.2.2.1.2.1 b.2.2.1.2.1) && ((sEq a.2.2.1.2.2.1 b.2.2.1.2.2.1) && ((sEq a.2.2.1.2.2.2.1 b.2.2.1.2.2.2.1) && ((a.2.2.1.2.2.2.2.1 == b.2.2.1.2.2.2.2.1) && ((a.2.2.1.2.2.2.2.2.1 == b.2.2.1.2.2.2.2.2.1) && ((a.2.2.1.2.2.2.2.2.2.1 == b.2.2.1.2.2.2.2.2.2.1) && ((a.2.2.1.2.2.2.2.2.2.2.1 == b.2.2.1.2.2.2.2.2.2.2.1) && true)))))))) && true))) = askEq a b := rfl
theorem h13 (a b : List Ask) (hw : WFs A13 (a, b, ())) : ∃ k, f13 k a b = some (s13 a b, ()) := by
  simp only [WFs, WF] at hw
  have hl : a.length ≤ 9223372036854775807 := hw.1.1
  clear hw
  refine ⟨a.length + 1, ?_⟩
  unfold f13 s13
  by_cases hlen : a.length = b.length
  · have e : ((a.length : Int) != (b.length : Int)) = false := by simp [hlen]
    simp only [e, cond_false]
    have hzl : (List.zip a b).length = a.length := by rw [List.length_zip]; omega
    rw [iter_find (s0 := (((0 : Int), ()), ())) (List.zip a b) (fun i => (((i : Int), ()), ())) (fun q => !askEq q.1 q.2) (fun i => .inl (false, ())) (.inr ((), ())) ?a1 ?a2 ?a3 ?a4]
    case a1 => rfl
    case a2 => omega
    case a3 =>
      intro j q hq
      obtain ⟨x, y⟩ := q
      obtain ⟨hx, hy⟩ := List.getElem?_zip_eq_some.1 hq
      simp only [lt_at hx, inR_at hx, inR_at hy, rd_at hx, rd_at hy, wrap_succ hx hl, cond_true, ask_chain]
      cases askEq x y <;> rfl
    case a4 => rw [hzl]; simp
    have := zip_none (ne := fun x y : Ask => !askEq x y) (fun x y => by rw [Bool.not_eq_false', askEq_iff]) hlen
    cases hf : (List.zip a b).findIdx? (fun q => !askEq q.1 q.2) with
    | none => simp [this.1 hf]
    | some i =>
      have : ¬ a = b := fun e => by rw [this.2 e] at hf; cases hf
      simp [this]
  · have e : ((a.length : Int) != (b.length : Int)) = true := by simp; omega
    have : ¬ a = b := fun e => hlen (by rw [e])
    simp [e, this]
theorem s13_self (l : List Ask) : s13 l l = true := by unfold s13; simp
def s3 (l : List Ask) (t : ByteArray) : Option (Bool × Unit) := if l.length ≤ 4294967296 then some (true, ()) else none
theorem h3 (l : List Ask) (t : ByteArray) (y : Bool × Unit) (hw : WFs A3 (l, t, ())) (h : s3 l t = some y) : ∃ k, f3 s6 s7 s8 s9 s10 s11 s12 s13 s14 k l t = some y := by
  unfold s3 at h
  split at h
  rotate_left
  · cases h
  rename_i hn
  cases h
  refine ⟨0, ?_⟩
  unfold f3
  have e10 : s10 l = some (l, ()) := by unfold s10; rw [if_pos hn]
  have e1 : (bif (s6 l) == (0 : Int) then Option.bind (s7 l) fun v1 => some (.inr ((v1.1, ()), ())) else some (.inr (((ByteArray.mk #[]), ()), ())) : Option ((Bool × Unit) ⊕ ((ByteArray × Unit) × Unit))) = some (.inr ((bif asksFault l != 0 then (ByteArray.mk #[]) else linesOf l, ()), ())) := by
    unfold s6
    by_cases hF : asksFault l = 0
    · have e7 : s7 l = some (linesOf l, ()) := by unfold s7; exact if_pos (asks_OK hF)
      rw [e7, hF]
      rfl
    · rw [show (asksFault l == 0) = false from by simpa using hF, show (asksFault l != 0) = true from by simpa using hF]
      rfl
  rw [e1]
  simp only [Option.bind_some, e10, s9, s11, s12, s6, beq_self_eq_true, cond_true, sEq_iff.2 rfl, s13_self, s14]
end Go.Vm
