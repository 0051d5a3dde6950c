/- RatingsScored: CheckRatings, Merge, Score and Ranked are as specified Conditions: what the arguments read is of bulk at most 1048576 (UptoSaid). Own work. -/
import Derived.Test.YtfiembgemhonlaaRSnd
import Derived.Test.YtfiembgemhonlaaVmD
import Derived.Test.YtfiembgemhonlaaRows
set_option linter.unusedVariables false
set_option linter.unusedSimpArgs false
namespace Go.Proofs.Ytfiembgemhonlaa.ratingsScored
open Go.ChangeShapes Go.WideShapes Go.ChangeAt Go.RowKit Go.Vm
mutual
theorem dBulk_le {H : Type} : ∀ d : DataW H, dBulk d ≤ Rows.uptoBulk d
  | .lit l => by cases l <;> simp [dBulk, Rows.uptoBulk]
  | .nil => by simp [dBulk, Rows.uptoBulk]
  | .ptr d => by simp [dBulk, Rows.uptoBulk]
  | .slice elems spare => by
    have := dBulkAll_le elems
    simp only [dBulk, Rows.uptoBulk]; omega
  | .agg parts => by
    have := dBulkAll_le parts
    simp only [dBulk, Rows.uptoBulk]; omega
  | .iface t d => by simp [dBulk, Rows.uptoBulk]
  | .map entries => by simp [dBulk, Rows.uptoBulk]
  | .held h => by simp [dBulk, Rows.uptoBulk]
theorem dBulkAll_le {H : Type} : ∀ l : List (DataW H), dBulkAll l ≤ Rows.uptoBulkAll l
  | [] => by simp [dBulkAll, Rows.uptoBulkAll]
  | d :: l => by
    have := dBulk_le d
    have := dBulkAll_le l
    simp only [dBulkAll, Rows.uptoBulkAll]; omega
end
theorem own : ownKnob Try.prog.godebug = none := by kernel_rfl
theorem pars : Try.f11.params.toList = [159, 160, 160, 9, 41, 3] := by kernel_rfl
theorem parsOK : chkPars Try.prog [159, 160, 160, 9, 41, 3] A11 = true := by kernel_rfl
theorem resT : Try.f11.resultTypes = #[4] := by kernel_rfl
theorem dom (x : A11.den) (hx : bulks A11 x ≤ 1048576) (_ : Rngs A11 x) : s11 x.1 x.2.1 x.2.2.1 x.2.2.2.1 x.2.2.2.2.1 x.2.2.2.2.2.1 = some (true, ()) := by
  have hx1 : bulks (.cons (.slice (.struct (.cons .str (.cons .str (.cons .str (.cons (.int .i64) (.cons (.int .i64) .nil))))))) (.cons (.slice (.struct (.cons .str (.cons .str (.cons .str (.cons (.int .i64) (.cons (.int .i64) .nil))))))) (.cons .str (.cons (.slice .str) (.cons (.int .i64) .nil))))) x.2 ≤ 1048576 := Nat.le_trans (Nat.le_add_left _ _) hx
  have h1 : bulk (.slice (.struct (.cons .str (.cons .str (.cons .str (.cons (.int .i64) (.cons (.int .i64) .nil))))))) x.2.1 ≤ 1048576 := Nat.le_trans (Nat.le_add_right _ _) hx1
  have l1 := len_bulk _ _ h1
  have hx2 : bulks (.cons (.slice (.struct (.cons .str (.cons .str (.cons .str (.cons (.int .i64) (.cons (.int .i64) .nil))))))) (.cons .str (.cons (.slice .str) (.cons (.int .i64) .nil)))) x.2.2 ≤ 1048576 := Nat.le_trans (Nat.le_add_left _ _) hx1
  have h2 : bulk (.slice (.struct (.cons .str (.cons .str (.cons .str (.cons (.int .i64) (.cons (.int .i64) .nil))))))) x.2.2.1 ≤ 1048576 := Nat.le_trans (Nat.le_add_right _ _) hx2
  have l2 := len_bulk _ _ h2
  have hx3 : bulks (.cons .str (.cons (.slice .str) (.cons (.int .i64) .nil))) x.2.2.2 ≤ 1048576 := Nat.le_trans (Nat.le_add_left _ _) hx2
  have hx4 : bulks (.cons (.slice .str) (.cons (.int .i64) .nil)) x.2.2.2.2 ≤ 1048576 := Nat.le_trans (Nat.le_add_left _ _) hx3
  have h4 : bulk (.slice .str) x.2.2.2.2.1 ≤ 1048576 := Nat.le_trans (Nat.le_add_right _ _) hx4
  have l4 := len_bulk _ _ h4
  have hx5 : bulks (.cons (.int .i64) .nil) x.2.2.2.2.2 ≤ 1048576 := Nat.le_trans (Nat.le_add_left _ _) hx4
  unfold s11
  exact if_pos ⟨Nat.le_trans l1 (by omega), Nat.le_trans l2 (by omega), Nat.le_trans l4 (by omega)⟩
theorem spec (H : Type) (l : List (DataW H)) (hl : l.length = ([159, 160, 160, 9, 41, 3] : List TypeId).length) : Rows.ratingsScoredSpec.fn H l = { results := [.lit (.bool true)], args := l } := by
  have hl : l.length = 6 := hl
  match l, hl with
  | [d1, d2, d3, d4, d5, d6], _ => rfl
set_option maxRecDepth 100000 in
theorem contract (H : Type) (enc : TypeId × Value → H) (W : World) (base : Nat) (args : Array Value) (ds gs : List (DataW H)) (before : List MemPlace)
    (hval : ∀ (j : Nat) t v, Try.f11.params[j]? = some t → args[j]? = some v → Value.okWide Try.prog W .any base t v)
    (hW : DataW.Whole enc Try.prog Try.f11.params.toList Rows.ratingsScoredSpec.vars false W args.toList ds gs before) (hk : Rows.uptoSmall H (ds ++ gs) = true) :
    Calls Try.prog 11 args W fun e W' => ∃ v, e = .returned v ∧ Rows.ratingsScoredSpec.post enc Try.prog Try.f11 false true false false W args v W' := by
  have hb : Rows.uptoBulkAll (ds ++ gs) ≤ 1048576 := of_decide_eq_true hk
  have hb2 : dBulkAll ds ≤ 1048576 := by
    have h1 := dBulkAll_le (ds ++ gs)
    rw [dBulkAll_append] at h1
    omega
  exact law_contract (F := Try.f11) (s := Rows.ratingsScoredSpec) (T := A11) (B := 1048576) (tb := 4) S11 pars parsOK resT Try.underlying4 rfl dom false true false false W base args ds gs before (fun l hl => spec H l hl) hval hW hb2
set_option maxRecDepth 100000 in
theorem lifted (os : Os) (started : os.Started) (H : Type) (enc : TypeId × Value → H) (F : Stop.Interp) :
    ReturnsInHanded {} Try.checked os 11 .any ((Rows.OpenSpec.upto Rows.ratingsScoredSpec).pre6 enc Try.prog Try.f11 Rows.ratingsScoredUptoRow.domain false) (((Rows.OpenSpec.upto Rows.ratingsScoredSpec).at F).post enc Try.prog Try.f11 false true false false) := by
  refine returnsInHanded_of_cond (C := Try.checked) (s := Rows.OpenSpec.upto Rows.ratingsScoredSpec) (k := Rows.uptoSmall) rfl own started (by kernel_rfl) Try.func11
    (OpenSpec.witness (enc := enc) (C := Try.checked) (s := Rows.OpenSpec.upto Rows.ratingsScoredSpec) (k := Rows.uptoSmall) rfl false ⟨#[], #[.agg #[.int .i64 0, .int .i64 0, .int .i64 0], .slice none 0 0, .slice none 0 0, .string ⟨#[]⟩, .slice none 0 0, .int .i64 0], []⟩ 8 (by kernel_rfl) (by kernel_rfl) (by kernel_rfl)
      (x := ([.agg [.lit (.int .i64 0), .lit (.int .i64 0), .lit (.int .i64 0)], .nil, .nil, .lit (.string []), .nil, .lit (.int .i64 0)], [], [])) (by kernel_rfl) rfl (by kernel_rfl)) ?_
  intro W base args ds gs before hval hW _ hk _
  exact contract H enc W base args ds gs before hval hW hk
end Go.Proofs.Ytfiembgemhonlaa.ratingsScored
