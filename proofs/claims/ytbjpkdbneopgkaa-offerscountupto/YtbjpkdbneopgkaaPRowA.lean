/- OffersCount: CheckOffers, Cars, RidesOf, CheckDeals and Cost are as specified for all offers and deals, where these are of bulk at most 1048576. Conditions: what the arguments read is of bulk at most 1048576 (UptoSaid). Own work. -/
import Derived.Test.YtbjpkdbneopgkaaPSnd
import Derived.Test.YtbjpkdbneopgkaaVmD
import Derived.Test.YtbjpkdbneopgkaaRows
set_option linter.unusedVariables false
set_option linter.unusedSimpArgs false
namespace Go.Proofs.Ytbjpkdbneopgkaa.offersCount
open Go.ChangeShapes Go.WideShapes Go.ChangeAt Go.RowKit Go.Vm
mutual
theorem dBulk_le {H : Type} : ∀ d : DataW H, dBulk d ≤ Rows.uptoBulk d
  | .lit l => by cases l <;> simp [dBulk, Rows.uptoBulk]
  | .nil => by simp [dBulk, Rows.uptoBulk]
  | .ptr d => by simp [dBulk, Rows.uptoBulk]
  | .slice elems spare => by
    have := dBulkAll_le elems
    simp only [dBulk, Rows.uptoBulk]; omega
  | .agg parts => by
    have := dBulkAll_le parts
    simp only [dBulk, Rows.uptoBulk]; omega
  | .iface t d => by simp [dBulk, Rows.uptoBulk]
  | .map entries => by simp [dBulk, Rows.uptoBulk]
  | .held h => by simp [dBulk, Rows.uptoBulk]
theorem dBulkAll_le {H : Type} : ∀ l : List (DataW H), dBulkAll l ≤ Rows.uptoBulkAll l
  | [] => by simp [dBulkAll, Rows.uptoBulkAll]
  | d :: l => by
    have := dBulk_le d
    have := dBulkAll_le l
    simp only [dBulkAll, Rows.uptoBulkAll]; omega
end
theorem own : ownKnob Try.prog.godebug = none := by kernel_rfl
theorem pars : Try.f4.params.toList = [36, 37] := by kernel_rfl
theorem parsOK : chkPars Try.prog [36, 37] A4 = true := by kernel_rfl
theorem resT : Try.f4.resultTypes = #[4] := by kernel_rfl
theorem dom (x : A4.den) (hx : bulks A4 x ≤ 1048576) (_ : Rngs A4 x) : s4 x.1 x.2.1 = some (true, ()) := by
  have h0 : bulk (.slice (.struct (.cons .str (.cons .str (.cons (.int .i64) .nil))))) x.1 ≤ 1048576 := Nat.le_trans (Nat.le_add_right _ _) hx
  have l0 := len_bulk _ _ h0
  have hx1 : bulks (.cons (.slice (.struct (.cons .str (.cons .str .nil)))) .nil) x.2 ≤ 1048576 := Nat.le_trans (Nat.le_add_left _ _) hx
  have h1 : bulk (.slice (.struct (.cons .str (.cons .str .nil)))) x.2.1 ≤ 1048576 := Nat.le_trans (Nat.le_add_right _ _) hx1
  have l1 := len_bulk _ _ h1
  unfold s4
  exact if_pos ⟨Nat.le_trans l0 (by omega), Nat.le_trans l1 (by omega)⟩
theorem spec (H : Type) (l : List (DataW H)) (hl : l.length = ([36, 37] : List TypeId).length) : Rows.offersCountSpec.fn H l = { results := [.lit (.bool true)], args := l } := by
  have hl : l.length = 2 := hl
  match l, hl with
  | [d1, d2], _ => rfl
set_option maxRecDepth 100000 in
theorem contract (H : Type) (enc : TypeId × Value → H) (W : World) (base : Nat) (args : Array Value) (ds gs : List (DataW H)) (before : List MemPlace)
    (hval : ∀ (j : Nat) t v, Try.f4.params[j]? = some t → args[j]? = some v → Value.okWide Try.prog W .any base t v)
    (hW : DataW.Whole enc Try.prog Try.f4.params.toList Rows.offersCountSpec.vars false W args.toList ds gs before) (hk : Rows.uptoSmall H (ds ++ gs) = true) :
    Calls Try.prog 4 args W fun e W' => ∃ v, e = .returned v ∧ Rows.offersCountSpec.post enc Try.prog Try.f4 false true false false W args v W' := by
  have hb : Rows.uptoBulkAll (ds ++ gs) ≤ 1048576 := of_decide_eq_true hk
  have hb2 : dBulkAll ds ≤ 1048576 := by
    have h1 := dBulkAll_le (ds ++ gs)
    rw [dBulkAll_append] at h1
    omega
  exact law_contract (F := Try.f4) (s := Rows.offersCountSpec) (T := A4) (B := 1048576) (tb := 4) S4 pars parsOK resT Try.underlying4 rfl dom false true false false W base args ds gs before (fun l hl => spec H l hl) hval hW hb2 (fun p hp => (by unfold theLay at hp; cases hp))
set_option maxRecDepth 100000 in
theorem lifted (os : Os) (started : os.Started) (H : Type) (enc : TypeId × Value → H) (F : Stop.Interp) :
    ReturnsInHanded {} Try.checked os 4 .any ((Rows.OpenSpec.upto Rows.offersCountSpec).pre6 enc Try.prog Try.f4 Rows.offersCountUptoRow.domain false) (((Rows.OpenSpec.upto Rows.offersCountSpec).at F).post enc Try.prog Try.f4 false true false false) := by
  refine returnsInHanded_of_cond (C := Try.checked) (s := Rows.OpenSpec.upto Rows.offersCountSpec) (k := Rows.uptoSmall) rfl own started (by kernel_rfl) Try.func4
    (OpenSpec.witness (enc := enc) (C := Try.checked) (s := Rows.OpenSpec.upto Rows.offersCountSpec) (k := Rows.uptoSmall) rfl false ⟨#[], #[.slice none 0 0, .slice none 0 0], []⟩ 8 (by kernel_rfl) (by kernel_rfl) (by kernel_rfl)
      (x := ([.nil, .nil], [], [])) (by kernel_rfl) rfl (by kernel_rfl)) ?_
  intro W base args ds gs before hval hW _ hk _
  exact contract H enc W base args ds gs before hval hW hk
end Go.Proofs.Ytbjpkdbneopgkaa.offersCount
