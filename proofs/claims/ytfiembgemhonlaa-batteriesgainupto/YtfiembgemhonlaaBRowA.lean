/- BatteriesGain: CheckVehicles, CheckPlaces, Gain and Needs answer as the reference does, for all arguments of bulk at most 1048576 (UptoSaid). Own work. -/
import Derived.Test.YtfiembgemhonlaaBSnd
import Derived.Test.YtfiembgemhonlaaVmRowB
import Derived.Test.YtfiembgemhonlaaRows
set_option linter.unusedVariables false
set_option linter.unusedSimpArgs false
namespace Go.Proofs.Ytfiembgemhonlaa.batteriesGain
open Go.ChangeShapes Go.WideShapes Go.ChangeAt Go.RowKit Go.Vm
mutual
theorem dBulk_le {H : Type} : ∀ d : DataW H, dBulk d ≤ Rows.uptoBulk d
  | .lit l => by cases l <;> simp [dBulk, Rows.uptoBulk]
  | .nil => by simp [dBulk, Rows.uptoBulk]
  | .ptr d => by simp [dBulk, Rows.uptoBulk]
  | .slice elems spare => by
    have := dBulkAll_le elems
    simp only [dBulk, Rows.uptoBulk]; omega
  | .agg parts => by
    have := dBulkAll_le parts
    simp only [dBulk, Rows.uptoBulk]; omega
  | .iface t d => by simp [dBulk, Rows.uptoBulk]
  | .map entries => by simp [dBulk, Rows.uptoBulk]
  | .held h => by simp [dBulk, Rows.uptoBulk]
theorem dBulkAll_le {H : Type} : ∀ l : List (DataW H), dBulkAll l ≤ Rows.uptoBulkAll l
  | [] => by simp [dBulkAll, Rows.uptoBulkAll]
  | d :: l => by
    have := dBulk_le d
    have := dBulkAll_le l
    simp only [dBulkAll, Rows.uptoBulkAll]; omega
end
theorem own : ownKnob Try.prog.godebug = none := by kernel_rfl
theorem pars : Try.f3.params.toList = [22, 23, 25, 27, 3, 3, 3] := by kernel_rfl
theorem parsOK : chkPars Try.prog [22, 23, 25, 27, 3, 3, 3] A3 = true := by kernel_rfl
theorem resT : Try.f3.resultTypes = #[4] := by kernel_rfl
theorem dom (x : A3.den) (hx : bulks A3 x ≤ 1048576) (_ : Rngs A3 x) : s3 x.1 x.2.1 x.2.2.1 x.2.2.2.1 x.2.2.2.2.1 x.2.2.2.2.2.1 x.2.2.2.2.2.2.1 = some (true, ()) := by
  have h0 : bulk (.slice (.struct (.cons .str (.cons (.int .i64) (.cons (.int .i64) (.cons (.int .i64) (.cons (.int .i64) .nil))))))) x.1 ≤ 1048576 := by simp only [bulks] at hx; omega
  have h1 : bulk (.slice (.struct (.cons .str (.cons (.int .i64) (.cons (.int .i64) .nil))))) x.2.1 ≤ 1048576 := by simp only [bulks] at hx; omega
  have h2 := len_bulk _ _ h0
  have h3 := len_bulk _ _ h1
  unfold s3
  exact if_pos ⟨Nat.le_trans h2 (by omega), Nat.le_trans h3 (by omega)⟩
theorem spec (H : Type) (l : List (DataW H)) (hl : l.length = ([22, 23, 25, 27, 3, 3, 3] : List TypeId).length) : Rows.batteriesGainSpec.fn H l = { results := [.lit (.bool true)], args := l } := by
  have hl : l.length = 7 := hl
  match l, hl with
  | [d1, d2, d3, d4, d5, d6, d7], _ => rfl
set_option maxRecDepth 100000 in
theorem contract (H : Type) (enc : TypeId × Value → H) (W : World) (base : Nat) (args : Array Value) (ds gs : List (DataW H)) (before : List MemPlace)
    (hval : ∀ (j : Nat) t v, Try.f3.params[j]? = some t → args[j]? = some v → Value.okWide Try.prog W .any base t v)
    (hW : DataW.Whole enc Try.prog Try.f3.params.toList Rows.batteriesGainSpec.vars false W args.toList ds gs before) (hk : Rows.uptoSmall H (ds ++ gs) = true) :
    Calls Try.prog 3 args W fun e W' => ∃ v, e = .returned v ∧ Rows.batteriesGainSpec.post enc Try.prog Try.f3 false true false false W args v W' := by
  have hb : Rows.uptoBulkAll (ds ++ gs) ≤ 1048576 := of_decide_eq_true hk
  have hb2 : dBulkAll ds ≤ 1048576 := by
    have h1 := dBulkAll_le (ds ++ gs)
    rw [dBulkAll_append] at h1
    omega
  exact law_contract (F := Try.f3) (s := Rows.batteriesGainSpec) (T := A3) (B := 1048576) (tb := 4) S3 pars parsOK resT Try.underlying4 rfl dom false true false false W base args ds gs before (fun l hl => spec H l hl) hval hW hb2
set_option maxRecDepth 100000 in
theorem lifted (os : Os) (started : os.Started) (H : Type) (enc : TypeId × Value → H) (F : Stop.Interp) :
    ReturnsInHanded {} Try.checked os 3 .any ((Rows.OpenSpec.upto Rows.batteriesGainSpec).pre6 enc Try.prog Try.f3 Rows.batteriesGainUptoRow.domain false) (((Rows.OpenSpec.upto Rows.batteriesGainSpec).at F).post enc Try.prog Try.f3 false true false false) := by
  refine returnsInHanded_of_cond (C := Try.checked) (s := Rows.OpenSpec.upto Rows.batteriesGainSpec) (k := Rows.uptoSmall) rfl own started (by kernel_rfl) Try.func3
    (OpenSpec.witness (enc := enc) (C := Try.checked) (s := Rows.OpenSpec.upto Rows.batteriesGainSpec) (k := Rows.uptoSmall) rfl false ⟨#[], #[.slice none 0 0, .slice none 0 0, .agg #[.string ⟨#[]⟩, .int .i64 0, .int .i64 0, .int .i64 0, .int .i64 0], .agg #[.string ⟨#[]⟩, .int .i64 0, .int .i64 0], .int .i64 0, .int .i64 0, .int .i64 0], []⟩ 8 (by kernel_rfl) (by kernel_rfl) (by kernel_rfl)
      (x := ([.nil, .nil, .agg [.lit (.string []), .lit (.int .i64 0), .lit (.int .i64 0), .lit (.int .i64 0), .lit (.int .i64 0)], .agg [.lit (.string []), .lit (.int .i64 0), .lit (.int .i64 0)], .lit (.int .i64 0), .lit (.int .i64 0), .lit (.int .i64 0)], [], [])) (by kernel_rfl) rfl (by kernel_rfl)) ?_
  intro W base args ds gs before hval hW _ hk _
  exact contract H enc W base args ds gs before hval hW hk
end Go.Proofs.Ytfiembgemhonlaa.batteriesGain
