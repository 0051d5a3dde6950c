/- DeedsMerge: CheckDeeds, Merge, Write, Cars and Asked answer as the reference does, for all deeds and moments. Conditions: what the arguments read is of bulk at most 1048576 (UptoSaid). Own work. -/
import Derived.Test.YtfiembgemhonlaaDSnd
import Derived.Test.YtfiembgemhonlaaVmD
import Derived.Test.YtfiembgemhonlaaRows
set_option linter.unusedVariables false
set_option linter.unusedSimpArgs false
namespace Go.Proofs.Ytfiembgemhonlaa.deedsMerge
open Go.ChangeShapes Go.WideShapes Go.ChangeAt Go.RowKit Go.Vm
mutual
theorem dBulk_le {H : Type} : ∀ d : DataW H, dBulk d ≤ Rows.uptoBulk d
  | .lit l => by cases l <;> simp [dBulk, Rows.uptoBulk]
  | .nil => by simp [dBulk, Rows.uptoBulk]
  | .ptr d => by simp [dBulk, Rows.uptoBulk]
  | .slice elems spare => by
    have := dBulkAll_le elems
    simp only [dBulk, Rows.uptoBulk]; omega
  | .agg parts => by
    have := dBulkAll_le parts
    simp only [dBulk, Rows.uptoBulk]; omega
  | .iface t d => by simp [dBulk, Rows.uptoBulk]
  | .map entries => by simp [dBulk, Rows.uptoBulk]
  | .held h => by simp [dBulk, Rows.uptoBulk]
theorem dBulkAll_le {H : Type} : ∀ l : List (DataW H), dBulkAll l ≤ Rows.uptoBulkAll l
  | [] => by simp [dBulkAll, Rows.uptoBulkAll]
  | d :: l => by
    have := dBulk_le d
    have := dBulkAll_le l
    simp only [dBulkAll, Rows.uptoBulkAll]; omega
end
theorem own : ownKnob Try.prog.godebug = none := by kernel_rfl
theorem pars : Try.f7.params.toList = [94, 94, 3, 100] := by kernel_rfl
theorem parsOK : chkPars Try.prog [94, 94, 3, 100] A7 = true := by kernel_rfl
theorem resT : Try.f7.resultTypes = #[4] := by kernel_rfl
theorem dom (x : A7.den) (hx : bulks A7 x ≤ 1048576) (_ : Rngs A7 x) : s7 x.1 x.2.1 x.2.2.1 x.2.2.2.1 = some (true, ()) := by
  have h0 : bulk (.slice (.struct (.cons .str (.cons (.int .i64) (.cons (.int .i64) (.cons (.int .i64) (.cons .str (.cons .str (.cons (.struct (.cons .str (.cons (.int .i64) (.cons (.int .i64) .nil)))) (.cons (.struct (.cons .str (.cons .str (.cons .str (.cons .str (.cons (.int .i64) (.cons (.int .i64) (.cons (.int .i64) (.cons (.int .i64) .nil))))))))) .nil)))))))))) x.1 ≤ 1048576 := Nat.le_trans (Nat.le_add_right _ _) hx
  have l0 := len_bulk _ _ h0
  have hx1 : bulks (.cons (.slice (.struct (.cons .str (.cons (.int .i64) (.cons (.int .i64) (.cons (.int .i64) (.cons .str (.cons .str (.cons (.struct (.cons .str (.cons (.int .i64) (.cons (.int .i64) .nil)))) (.cons (.struct (.cons .str (.cons .str (.cons .str (.cons .str (.cons (.int .i64) (.cons (.int .i64) (.cons (.int .i64) (.cons (.int .i64) .nil))))))))) .nil)))))))))) (.cons (.int .i64) (.cons (.struct (.cons .str (.cons (.int .i64) (.cons (.int .i64) (.cons (.int .i64) (.cons .str (.cons .str (.cons (.struct (.cons .str (.cons (.int .i64) (.cons (.int .i64) .nil)))) (.cons (.struct (.cons .str (.cons .str (.cons .str (.cons .str (.cons (.int .i64) (.cons (.int .i64) (.cons (.int .i64) (.cons (.int .i64) .nil))))))))) .nil))))))))) .nil))) x.2 ≤ 1048576 := Nat.le_trans (Nat.le_add_left _ _) hx
  have h1 : bulk (.slice (.struct (.cons .str (.cons (.int .i64) (.cons (.int .i64) (.cons (.int .i64) (.cons .str (.cons .str (.cons (.struct (.cons .str (.cons (.int .i64) (.cons (.int .i64) .nil)))) (.cons (.struct (.cons .str (.cons .str (.cons .str (.cons .str (.cons (.int .i64) (.cons (.int .i64) (.cons (.int .i64) (.cons (.int .i64) .nil))))))))) .nil)))))))))) x.2.1 ≤ 1048576 := Nat.le_trans (Nat.le_add_right _ _) hx1
  have l1 := len_bulk _ _ h1
  have hx2 : bulks (.cons (.int .i64) (.cons (.struct (.cons .str (.cons (.int .i64) (.cons (.int .i64) (.cons (.int .i64) (.cons .str (.cons .str (.cons (.struct (.cons .str (.cons (.int .i64) (.cons (.int .i64) .nil)))) (.cons (.struct (.cons .str (.cons .str (.cons .str (.cons .str (.cons (.int .i64) (.cons (.int .i64) (.cons (.int .i64) (.cons (.int .i64) .nil))))))))) .nil))))))))) .nil)) x.2.2 ≤ 1048576 := Nat.le_trans (Nat.le_add_left _ _) hx1
  have hx3 : bulks (.cons (.struct (.cons .str (.cons (.int .i64) (.cons (.int .i64) (.cons (.int .i64) (.cons .str (.cons .str (.cons (.struct (.cons .str (.cons (.int .i64) (.cons (.int .i64) .nil)))) (.cons (.struct (.cons .str (.cons .str (.cons .str (.cons .str (.cons (.int .i64) (.cons (.int .i64) (.cons (.int .i64) (.cons (.int .i64) .nil))))))))) .nil))))))))) .nil) x.2.2.2 ≤ 1048576 := Nat.le_trans (Nat.le_add_left _ _) hx2
  unfold s7
  exact if_pos ⟨Nat.le_trans l0 (by omega), Nat.le_trans l1 (by omega)⟩
theorem spec (H : Type) (l : List (DataW H)) (hl : l.length = ([94, 94, 3, 100] : List TypeId).length) : Rows.deedsMergeSpec.fn H l = { results := [.lit (.bool true)], args := l } := by
  have hl : l.length = 4 := hl
  match l, hl with
  | [d1, d2, d3, d4], _ => rfl
set_option maxRecDepth 100000 in
theorem contract (H : Type) (enc : TypeId × Value → H) (W : World) (base : Nat) (args : Array Value) (ds gs : List (DataW H)) (before : List MemPlace)
    (hval : ∀ (j : Nat) t v, Try.f7.params[j]? = some t → args[j]? = some v → Value.okWide Try.prog W .any base t v)
    (hW : DataW.Whole enc Try.prog Try.f7.params.toList Rows.deedsMergeSpec.vars false W args.toList ds gs before) (hk : Rows.uptoSmall H (ds ++ gs) = true) :
    Calls Try.prog 7 args W fun e W' => ∃ v, e = .returned v ∧ Rows.deedsMergeSpec.post enc Try.prog Try.f7 false true false false W args v W' := by
  have hb : Rows.uptoBulkAll (ds ++ gs) ≤ 1048576 := of_decide_eq_true hk
  have hb2 : dBulkAll ds ≤ 1048576 := by
    have h1 := dBulkAll_le (ds ++ gs)
    rw [dBulkAll_append] at h1
    omega
  exact law_contract (F := Try.f7) (s := Rows.deedsMergeSpec) (T := A7) (B := 1048576) (tb := 4) S7 pars parsOK resT Try.underlying4 rfl dom false true false false W base args ds gs before (fun l hl => spec H l hl) hval hW hb2
set_option maxRecDepth 100000 in
theorem lifted (os : Os) (started : os.Started) (H : Type) (enc : TypeId × Value → H) (F : Stop.Interp) :
    ReturnsInHanded {} Try.checked os 7 .any ((Rows.OpenSpec.upto Rows.deedsMergeSpec).pre6 enc Try.prog Try.f7 Rows.deedsMergeUptoRow.domain false) (((Rows.OpenSpec.upto Rows.deedsMergeSpec).at F).post enc Try.prog Try.f7 false true false false) := by
  refine returnsInHanded_of_cond (C := Try.checked) (s := Rows.OpenSpec.upto Rows.deedsMergeSpec) (k := Rows.uptoSmall) rfl own started (by kernel_rfl) Try.func7
    (OpenSpec.witness (enc := enc) (C := Try.checked) (s := Rows.OpenSpec.upto Rows.deedsMergeSpec) (k := Rows.uptoSmall) rfl false ⟨#[], #[.slice none 0 0, .slice none 0 0, .int .i64 0, .agg #[.string ⟨#[]⟩, .int .i64 0, .int .i64 0, .int .i64 0, .string ⟨#[]⟩, .string ⟨#[]⟩, .string ⟨#[]⟩, .int .i64 0, .int .i64 0, .string ⟨#[]⟩, .string ⟨#[]⟩, .string ⟨#[]⟩, .string ⟨#[]⟩, .int .i64 0, .int .i64 0, .int .i64 0, .int .i64 0]], []⟩ 8 (by kernel_rfl) (by kernel_rfl) (by kernel_rfl)
      (x := ([.nil, .nil, .lit (.int .i64 0), .agg [.lit (.string []), .lit (.int .i64 0), .lit (.int .i64 0), .lit (.int .i64 0), .lit (.string []), .lit (.string []), .agg [.lit (.string []), .lit (.int .i64 0), .lit (.int .i64 0)], .agg [.lit (.string []), .lit (.string []), .lit (.string []), .lit (.string []), .lit (.int .i64 0), .lit (.int .i64 0), .lit (.int .i64 0), .lit (.int .i64 0)]]], [], [])) (by kernel_rfl) rfl (by kernel_rfl)) ?_
  intro W base args ds gs before hval hW _ hk _
  exact contract H enc W base args ds gs before hval hW hk
end Go.Proofs.Ytfiembgemhonlaa.deedsMerge
