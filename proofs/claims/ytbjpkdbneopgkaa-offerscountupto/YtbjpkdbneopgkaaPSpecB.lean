/- OffersCount: deals, checked by both; costs. Own work. -/
import Derived.Test.YtbjpkdbneopgkaaPSpec
set_option maxRecDepth 100000
set_option linter.unusedVariables false
set_option linter.unusedSimpArgs false
namespace Go.Vm
open Go.RowKit
def dPrev (d : List Dl) (j : Nat) (x : Dl) : Bool :=
  match j with
  | 0 => false
  | i + 1 => match d[i]? with
    | some o => sLt x.1 o.1 || sEq x.1 o.1
    | none => false
def dBad (l : List Ofr) (d : List Dl) (j : Nat) (x : Dl) : Int := bif decide (s43 l x < 0) then 8 else bif dPrev d j x then 7 else bif (d.take j).any (fun o => sEq o.2.1 x.2.1) then 6 else 0
def dRec (l : List Ofr) (d : List Dl) : List Dl → Nat → Int
  | [], _ => 0
  | x :: r, j => bif dBad l d j x != 0 then dBad l d j x else dRec l d r (j + 1)
def dBody {β γ : Type} (l : List Ofr) (d : List Dl) (step : Dl → β → β) (j : Nat) (x : Dl) (b : β) : β ⊕ ((Int × Unit) ⊕ γ) := bif dBad l d j x != 0 then .inr (.inl (dBad l d j x, ())) else .inl (step x b)
theorem dScan {β γ : Type} (l : List Ofr) (d : List Dl) (step : Dl → β → β) (g : β → γ) : ∀ (r : List Dl) (j : Nat) (b : β), ∃ b', scan (dBody l d step) (fun b => .inr (g b)) r j b = bif dRec l d r j != 0 then .inl (dRec l d r j, ()) else .inr (g b')
  | [], j, b => ⟨b, rfl⟩
  | x :: r, j, b => by
    simp only [scan, dBody, dRec]
    cases h : dBad l d j x != 0
    · simp only [cond_false]
      exact dScan l d step g r (j + 1) (step x b)
    · simp only [cond_true, h]
      exact ⟨b, trivial⟩
def dealsF (l : List Ofr) (d : List Dl) : Int := if d.length > 200 then 2 else dRec l d d 0
def s20 (l : List Ofr) (d : List Dl) : Option (Int × Unit) := some (dealsF l d, ())
def s22 (l : List Ofr) (d : List Dl) : Option (Int × Unit) := some (bif ofrsFault l != 0 then ofrsFault l else dealsF l d, ())
theorem any_idx {α : Type} (p : α → Bool) (l : List α) : (l.findIdx? p).isSome = l.any p := by
  rw [List.findIdx?_isSome]
theorem takeAny {d : List Dl} {j : Nat} {x : Dl} (h : d[j]? = some x) (key : ByteArray) : (d.take (j + 1)).any (fun o => sEq o.2.1 key) = (sEq key x.2.1 || (d.take j).any (fun o => sEq o.2.1 key)) := by
  rw [List.take_add_one, h, List.any_append]
  simp only [Option.toList_some, List.any_cons, List.any_nil, Bool.or_false]
  rw [Bool.or_comm]
  congr 1
  rw [Bool.eq_iff_iff, sEq_iff, sEq_iff]
  exact ⟨Eq.symm, Eq.symm⟩
theorem sGet_put (x y : ByteArray) (m : MapC .str .bool) : mget (keq .str) false y (mput (keq .str) x true m).1 = cond (sEq y x) true (mget (keq .str) false y m.1) := mget_mput (eq := keq .str) (fun a b => sEq_iff) false x true m y
theorem h22 (l : List Ofr) (d : List Dl) (y : Int × Unit) (hw : WFs A22 (l, d, ())) (h : s22 l d = some y) : ∃ k, f22 s21 s47 k l d = some y := by
  simp only [WFs, WF] at hw
  have hl : d.length ≤ 9223372036854775807 := hw.2.1.1
  clear hw
  unfold s22 at h
  cases h
  refine ⟨d.length + 1, ?_⟩
  unfold f22
  rw [show s21 l = ofrsFault l from rfl]
  cases hF : ofrsFault l != 0
  rotate_left
  · rfl
  have hF0 : ofrsFault l = 0 := by simpa using hF
  have e47 : ∀ x, s47 l x = some (s43 l x, ()) := fun x => if_pos hF0
  simp only [cond_false]
  rw [show (200 : Int) = ((200 : Nat) : Int) from rfl, len_gt]
  unfold dealsF
  by_cases hn : d.length > 200
  · simp [hn]
  · simp only [hn, decide_false, cond_false, if_false]
    obtain ⟨b', hb'⟩ := dScan (γ := Unit × (MapC .str .bool × Unit)) l d (fun x (m : MapC .str .bool) => mput (keq .str) x.2.1 true m) (fun m => ((), (m, ()))) d 0 (([], 0) : MapC .str .bool)
    rw [iter_scanI (s0 := (((0 : Int), ()), ((([], 0) : MapC .str .bool), ()))) d (fun (j : Nat) (m : MapC .str .bool) => (((j : Int), ()), (m, ()))) (dBody l d (fun x m => mput (keq .str) x.2.1 true m)) (fun m => .inr ((), (m, ()))) (fun j m => ∀ key, mget (keq .str) false key m.1 = (d.take j).any (fun o => sEq o.2.1 key)) (([], 0) : MapC .str .bool) ?a1 rfl (by omega) ?a2 ?a3 ?a4, hb']
    case a1 => intro key; rfl
    case a2 =>
      intro j x b b' hx hJ e key
      unfold dBody at e
      cases hb : dBad l d j x != 0
      · rw [hb, cond_false] at e
        cases e
        refine (sGet_put x.2.1 key b).trans ?_
        have e := hJ key
        refine (congrArg (cond (sEq key x.2.1) true) e).trans ?_
        refine Eq.trans ?_ (takeAny hx key).symm
        cases sEq key x.2.1 <;> rfl
      · rw [hb, cond_true] at e
        cases e
    case a3 =>
      intro j x b hx hJ
      have em := hJ x.2.1
      simp only [lt_at hx, inR_at hx, rd_at hx, wrap_succ hx hl, cond_true, e47, Option.bind_some, em, dBody, dBad]
      cases decide (s43 l x < 0)
      rotate_left
      · rfl
      cases j with
      | zero =>
        simp only [dPrev]
        cases (List.take 0 d).any (fun o => sEq o.2.1 x.2.1) <;> rfl
      | succ i =>
        have hi : i < d.length := by have := (List.getElem?_eq_some_iff.1 hx).1; omega
        have ho : d[i]? = some d[i] := List.getElem?_eq_getElem hi
        have e0 : decide (((i + 1 : Nat) : Int) > 0) = true := decide_eq_true (by omega)
        have hp := prev_ix (xs := d) (j := i + 1) hl (by omega) ho
        simp only [Nat.add_sub_cancel] at hp
        simp only [e0, hp, inR_at ho, rd_at ho, cond_true, dPrev, ho, Option.bind_some]
        cases (sLt x.1 d[i].1 || sEq x.1 d[i].1)
        rotate_left
        · rfl
        cases (List.take (i + 1) d).any (fun o => sEq o.2.1 x.2.1) <;> rfl
    case a4 => intro b hJ; simp only [Int.lt_irrefl, decide_false, cond_false]
    cases hz : dRec l d d 0 != 0
    · have : dRec l d d 0 = 0 := by simpa using hz
      simp only [cond_false, Option.bind_some, this]
    · rfl
end Go.Vm
