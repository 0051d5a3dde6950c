/- SeriesRide: CheckRide, CheckRiders, CheckSeries, Days, Rides and Same are as specified for all rides and series, where these are of bulk at most 1048576. Conditions: what the arguments read is of bulk at most 1048576 (UptoSaid). Own work. -/
import Derived.Test.YtjkidhjkpkcnhaaGreatDoorWSnd
import Derived.Test.YtjkidhjkpkcnhaaGreatDoorVmD
import Derived.Test.YtjkidhjkpkcnhaaGreatDoorWHand
import Derived.Test.YtjkidhjkpkcnhaaGreatDoorWZ
import Derived.WalkKit
import Derived.ProofKit
import Derived.OpenShut
import Derived.Deep.DeepHandedRow
import Derived.Lib.LaidTab
import Derived.Test.YtjkidhjkpkcnhaaGreatDoorCards
import Derived.Test.YtjkidhjkpkcnhaaGreatDoorRows
set_option linter.unusedVariables false
set_option linter.unusedSimpArgs false
namespace Go.Proofs.YtjkidhjkpkcnhaaGreatDoor.seriesRide
open Go.ChangeShapes Go.WideShapes Go.ChangeAt Go.RowKit Go.Vm
mutual
theorem dBulk_le {H : Type} : ∀ d : DataW H, dBulk d ≤ Rows.uptoBulk d
  | .lit l => by cases l <;> simp [dBulk, Rows.uptoBulk]
  | .nil => by simp [dBulk, Rows.uptoBulk]
  | .ptr d => by simp [dBulk, Rows.uptoBulk]
  | .slice elems spare => by
    have := dBulkAll_le elems
    simp only [dBulk, Rows.uptoBulk]; omega
  | .agg parts => by
    have := dBulkAll_le parts
    simp only [dBulk, Rows.uptoBulk]; omega
  | .iface t d => by simp [dBulk, Rows.uptoBulk]
  | .map entries => by simp [dBulk, Rows.uptoBulk]
  | .held h => by simp [dBulk, Rows.uptoBulk]
theorem dBulkAll_le {H : Type} : ∀ l : List (DataW H), dBulkAll l ≤ Rows.uptoBulkAll l
  | [] => by simp [dBulkAll, Rows.uptoBulkAll]
  | d :: l => by
    have := dBulk_le d
    have := dBulkAll_le l
    simp only [dBulkAll, Rows.uptoBulkAll]; omega
end
theorem own : ownKnob Tryz.prog.godebug = none := by kernel_rfl
theorem pars : Tryz.f3.params.toList = [23, 24, 25, 28, 28, 30] := by kernel_rfl
theorem parsOK : chkPars Tryz.prog [23, 24, 25, 28, 28, 30] A3 = true := by kernel_rfl
theorem resT : Tryz.f3.resultTypes = #[4] := by kernel_rfl
theorem dom (x : A3.den) (hx : bulks A3 x ≤ 1048576) (_ : Rngs A3 x) : s3 x.1 x.2.1 x.2.2.1 x.2.2.2.1 x.2.2.2.2.1 x.2.2.2.2.2.1 = some (true, ()) := by
  have hx1 : bulks (.cons (.slice (.struct (.cons .str (.cons (.int .i64) (.cons (.int .i64) .nil))))) (.cons (.slice (.struct (.cons .str (.cons .str (.cons .str (.cons .str (.cons (.int .i64) (.cons (.int .i64) (.cons (.int .i64) (.cons (.int .i64) (.cons (.int .i64) (.cons (.int .i64) (.cons (.int .i64) (.cons (.int .i64) (.cons (.int .i64) (.cons (.slice (.struct (.cons (.int .i64) (.cons .bool (.cons (.int .i64) .nil))))) .nil)))))))))))))))) (.cons (.struct (.cons .str (.cons .str (.cons .str (.cons .str (.cons (.int .i64) (.cons (.int .i64) (.cons (.int .i64) (.cons (.int .i64) (.cons (.int .i64) (.cons (.int .i64) (.cons (.int .i64) (.cons (.int .i64) (.cons (.int .i64) (.cons (.slice (.struct (.cons (.int .i64) (.cons .bool (.cons (.int .i64) .nil))))) .nil))))))))))))))) (.cons (.struct (.cons .str (.cons .str (.cons .str (.cons .str (.cons (.int .i64) (.cons (.int .i64) (.cons (.int .i64) (.cons (.int .i64) (.cons (.int .i64) (.cons (.int .i64) (.cons (.int .i64) (.cons (.int .i64) (.cons (.int .i64) (.cons (.slice (.struct (.cons (.int .i64) (.cons .bool (.cons (.int .i64) .nil))))) .nil))))))))))))))) (.cons (.struct (.cons (.int .i64) (.cons (.int .i64) .nil))) .nil))))) x.2 ≤ 1048576 := Nat.le_trans (Nat.le_add_left _ _) hx
  have h1 : bulk (.slice (.struct (.cons .str (.cons (.int .i64) (.cons (.int .i64) .nil))))) x.2.1 ≤ 1048576 := Nat.le_trans (Nat.le_add_right _ _) hx1
  have l1 := len_bulk _ _ h1
  have hx2 : bulks (.cons (.slice (.struct (.cons .str (.cons .str (.cons .str (.cons .str (.cons (.int .i64) (.cons (.int .i64) (.cons (.int .i64) (.cons (.int .i64) (.cons (.int .i64) (.cons (.int .i64) (.cons (.int .i64) (.cons (.int .i64) (.cons (.int .i64) (.cons (.slice (.struct (.cons (.int .i64) (.cons .bool (.cons (.int .i64) .nil))))) .nil)))))))))))))))) (.cons (.struct (.cons .str (.cons .str (.cons .str (.cons .str (.cons (.int .i64) (.cons (.int .i64) (.cons (.int .i64) (.cons (.int .i64) (.cons (.int .i64) (.cons (.int .i64) (.cons (.int .i64) (.cons (.int .i64) (.cons (.int .i64) (.cons (.slice (.struct (.cons (.int .i64) (.cons .bool (.cons (.int .i64) .nil))))) .nil))))))))))))))) (.cons (.struct (.cons .str (.cons .str (.cons .str (.cons .str (.cons (.int .i64) (.cons (.int .i64) (.cons (.int .i64) (.cons (.int .i64) (.cons (.int .i64) (.cons (.int .i64) (.cons (.int .i64) (.cons (.int .i64) (.cons (.int .i64) (.cons (.slice (.struct (.cons (.int .i64) (.cons .bool (.cons (.int .i64) .nil))))) .nil))))))))))))))) (.cons (.struct (.cons (.int .i64) (.cons (.int .i64) .nil))) .nil)))) x.2.2 ≤ 1048576 := Nat.le_trans (Nat.le_add_left _ _) hx1
  have h2 : bulk (.slice (.struct (.cons .str (.cons .str (.cons .str (.cons .str (.cons (.int .i64) (.cons (.int .i64) (.cons (.int .i64) (.cons (.int .i64) (.cons (.int .i64) (.cons (.int .i64) (.cons (.int .i64) (.cons (.int .i64) (.cons (.int .i64) (.cons (.slice (.struct (.cons (.int .i64) (.cons .bool (.cons (.int .i64) .nil))))) .nil)))))))))))))))) x.2.2.1 ≤ 1048576 := Nat.le_trans (Nat.le_add_right _ _) hx2
  have l2 := len_bulk _ _ h2
  have hx3 : bulks (.cons (.struct (.cons .str (.cons .str (.cons .str (.cons .str (.cons (.int .i64) (.cons (.int .i64) (.cons (.int .i64) (.cons (.int .i64) (.cons (.int .i64) (.cons (.int .i64) (.cons (.int .i64) (.cons (.int .i64) (.cons (.int .i64) (.cons (.slice (.struct (.cons (.int .i64) (.cons .bool (.cons (.int .i64) .nil))))) .nil))))))))))))))) (.cons (.struct (.cons .str (.cons .str (.cons .str (.cons .str (.cons (.int .i64) (.cons (.int .i64) (.cons (.int .i64) (.cons (.int .i64) (.cons (.int .i64) (.cons (.int .i64) (.cons (.int .i64) (.cons (.int .i64) (.cons (.int .i64) (.cons (.slice (.struct (.cons (.int .i64) (.cons .bool (.cons (.int .i64) .nil))))) .nil))))))))))))))) (.cons (.struct (.cons (.int .i64) (.cons (.int .i64) .nil))) .nil))) x.2.2.2 ≤ 1048576 := Nat.le_trans (Nat.le_add_left _ _) hx2
  have hx4 : bulks (.cons (.struct (.cons .str (.cons .str (.cons .str (.cons .str (.cons (.int .i64) (.cons (.int .i64) (.cons (.int .i64) (.cons (.int .i64) (.cons (.int .i64) (.cons (.int .i64) (.cons (.int .i64) (.cons (.int .i64) (.cons (.int .i64) (.cons (.slice (.struct (.cons (.int .i64) (.cons .bool (.cons (.int .i64) .nil))))) .nil))))))))))))))) (.cons (.struct (.cons (.int .i64) (.cons (.int .i64) .nil))) .nil)) x.2.2.2.2 ≤ 1048576 := Nat.le_trans (Nat.le_add_left _ _) hx3
  have hx5 : bulks (.cons (.struct (.cons (.int .i64) (.cons (.int .i64) .nil))) .nil) x.2.2.2.2.2 ≤ 1048576 := Nat.le_trans (Nat.le_add_left _ _) hx4
  have h3 : bulk WY4 x.2.2.2.1 ≤ 1048576 := Nat.le_trans (Nat.le_add_right _ _) hx3
  have h4 : bulk WY4 x.2.2.2.2.1 ≤ 1048576 := Nat.le_trans (Nat.le_add_right _ _) hx4
  unfold s3
  exact if_pos ⟨Nat.le_trans l1 (by omega), Nat.le_trans l2 (by omega), sr_of_bulk _ h2, sr_one _ h3, sr_one _ h4⟩
theorem spec (H : Type) (l : List (DataW H)) (hl : l.length = ([23, 24, 25, 28, 28, 30] : List TypeId).length) : Rows.seriesRideSpec.fn H l = { results := [.lit (.bool true)], args := l } := by
  have hl : l.length = 6 := hl
  match l, hl with
  | [d1, d2, d3, d4, d5, d6], _ => rfl
theorem tab_of_mem {P : Program} {W : World} {name : String} {k : IntKind} {zs : List Int} {g : Nat} {t e : TypeId} {n : Nat}
    (hg : P.globalNamed name = some g) (hty : (P.globals[g]?).map (·.type) = some t) (ht : P.underlying t = some (.array n e)) (he : P.underlying e = some (.int k)) (hce : P.cellsOf e = 1) (hct : P.cellsOf t = n) :
    ∀ (laid : List (String × DataW Unit)) (ps : List MemPlace), DataW.LaidVars P W laid ps → (name, Lib.tabData k zs) ∈ laid → Lib.TabIs P W name k zs
  | [], _, _, h => by cases h
  | (m, d) :: r, ps, hl, h => by
    obtain ⟨g', t', cs, fuel, p, q, hg', ht', hvar, hd, hr, _⟩ := hl
    rcases List.mem_cons.1 h with h | h
    · cases h
      obtain rfl := Option.some.inj (hg.symm.trans hg')
      obtain rfl := Option.some.inj (hty.symm.trans ht')
      unfold Lib.TabIs
      rw [hvar, ← Lib.cells_of_tab ht he hce hct hd]
    · exact tab_of_mem hg hty ht he hce hct r q hr h
theorem table {W : World} (h : laidMetH Tryz.prog Rows.seriesRideUptoRow.laid W) : Lib.TabIs Tryz.prog W "internal/strconv.uint64pow10" .u64 Lib.pow10Tab := by
  obtain ⟨ps, hl, _⟩ := h
  exact tab_of_mem (t := 296) gTab (by kernel_rfl) Tryz.underlying296 Tryz.underlying231 (by kernel_rfl) (by kernel_rfl) _ ps hl (by simp only [Rows.seriesRideUptoRow]; exact .tail _ (.tail _ (.head _)))
theorem tab_laid {W : World} (ht : Lib.TabIs Tryz.prog W "internal/strconv.uint64pow10" .u64 Lib.pow10Tab) : ∀ p ∈ theLay, LaidAt W p := by
  intro p hp
  rcases List.mem_cons.1 hp with rfl | hp
  · unfold Lib.TabIs World.var? at ht
    rw [gTab] at ht
    simp only [Option.bind_some] at ht
    split at ht
    · rename_i cs t z e
      cases ht
      exact ⟨_, t, z, e, rfl⟩
    · cases ht
  · cases hp
/-- what a variable's cells hold -/
def cellsOf (d : DataW Unit) : Array Value := match d with
  | .agg l => (l.map fun x => match x with | .lit (.int k z) => Value.int k z | _ => undef).toArray
  | _ => #[]
def lay (o : Obj) (d : DataW Unit) : Obj := match o with
  | .cells _ t frozen => .cells (cellsOf d) t frozen
  | o => o
noncomputable def laidWorld (os : Os) : World :=
  { World.holding Tryz.prog os ⟨#[], #[], []⟩ with heap := ((((World.holding Tryz.prog os ⟨#[], #[], []⟩).heap).modify 6 fun o => lay o Rows.laid_math_bits_deBruijn32tab).modify 7 fun o => lay o Rows.laid_math_bits_deBruijn64tab).modify 3 fun o => lay o Rows.laid_internal_strconv_uint64pow10 }
theorem laid_met (os : Os) : laidMet Tryz.prog Rows.seriesRideUptoRow.laid ((laidWorld os).forCall (fun _ _ => 0) ⟨#[], #[.agg #[.string ⟨#[]⟩, .string ⟨#[]⟩, .string ⟨#[]⟩, .string ⟨#[]⟩, .int .i64 0, .int .i64 0, .int .i64 0, .int .i64 0], .slice none 0 0, .slice none 0 0, .agg #[.string ⟨#[]⟩, .string ⟨#[]⟩, .string ⟨#[]⟩, .string ⟨#[]⟩, .int .i64 0, .int .i64 0, .int .i64 0, .int .i64 0, .int .i64 0, .int .i64 0, .int .i64 0, .int .i64 0, .int .i64 0, .slice none 0 0], .agg #[.string ⟨#[]⟩, .string ⟨#[]⟩, .string ⟨#[]⟩, .string ⟨#[]⟩, .int .i64 0, .int .i64 0, .int .i64 0, .int .i64 0, .int .i64 0, .int .i64 0, .int .i64 0, .int .i64 0, .int .i64 0, .slice none 0 0], .agg #[.int .i64 0, .int .i64 0]], []⟩).memory :=
  laidMet_of_run' 8 (by kernel_rfl) (by kernel_rfl)
theorem reads (os : Os) {H : Type} (enc : TypeId × Value → H) : ∃ places, DataW.whole enc Tryz.prog ((laidWorld os).forCall (fun _ _ => 0) ⟨#[], #[.agg #[.string ⟨#[]⟩, .string ⟨#[]⟩, .string ⟨#[]⟩, .string ⟨#[]⟩, .int .i64 0, .int .i64 0, .int .i64 0, .int .i64 0], .slice none 0 0, .slice none 0 0, .agg #[.string ⟨#[]⟩, .string ⟨#[]⟩, .string ⟨#[]⟩, .string ⟨#[]⟩, .int .i64 0, .int .i64 0, .int .i64 0, .int .i64 0, .int .i64 0, .int .i64 0, .int .i64 0, .int .i64 0, .int .i64 0, .slice none 0 0], .agg #[.string ⟨#[]⟩, .string ⟨#[]⟩, .string ⟨#[]⟩, .string ⟨#[]⟩, .int .i64 0, .int .i64 0, .int .i64 0, .int .i64 0, .int .i64 0, .int .i64 0, .int .i64 0, .int .i64 0, .int .i64 0, .slice none 0 0], .agg #[.int .i64 0, .int .i64 0]], []⟩).memory Tryz.f3.params.toList Rows.seriesRideSpec.vars false (#[.agg #[.string ⟨#[]⟩, .string ⟨#[]⟩, .string ⟨#[]⟩, .string ⟨#[]⟩, .int .i64 0, .int .i64 0, .int .i64 0, .int .i64 0], .slice none 0 0, .slice none 0 0, .agg #[.string ⟨#[]⟩, .string ⟨#[]⟩, .string ⟨#[]⟩, .string ⟨#[]⟩, .int .i64 0, .int .i64 0, .int .i64 0, .int .i64 0, .int .i64 0, .int .i64 0, .int .i64 0, .int .i64 0, .int .i64 0, .slice none 0 0], .agg #[.string ⟨#[]⟩, .string ⟨#[]⟩, .string ⟨#[]⟩, .string ⟨#[]⟩, .int .i64 0, .int .i64 0, .int .i64 0, .int .i64 0, .int .i64 0, .int .i64 0, .int .i64 0, .int .i64 0, .int .i64 0, .slice none 0 0], .agg #[.int .i64 0, .int .i64 0]] : Array Value).toList 8 = some ([.agg [.lit (.string []), .lit (.string []), .lit (.string []), .lit (.string []), .lit (.int .i64 0), .lit (.int .i64 0), .lit (.int .i64 0), .lit (.int .i64 0)], .nil, .nil, .agg [.lit (.string []), .lit (.string []), .lit (.string []), .lit (.string []), .lit (.int .i64 0), .lit (.int .i64 0), .lit (.int .i64 0), .lit (.int .i64 0), .lit (.int .i64 0), .lit (.int .i64 0), .lit (.int .i64 0), .lit (.int .i64 0), .lit (.int .i64 0), .nil], .agg [.lit (.string []), .lit (.string []), .lit (.string []), .lit (.string []), .lit (.int .i64 0), .lit (.int .i64 0), .lit (.int .i64 0), .lit (.int .i64 0), .lit (.int .i64 0), .lit (.int .i64 0), .lit (.int .i64 0), .lit (.int .i64 0), .lit (.int .i64 0), .nil], .agg [.lit (.int .i64 0), .lit (.int .i64 0)]], [], places) :=
  ⟨[], by kernel_rfl⟩
set_option maxRecDepth 100000 in
theorem contract (H : Type) (enc : TypeId × Value → H) (W : World) (base : Nat) (args : Array Value) (ds gs : List (DataW H)) (before : List MemPlace)
    (hval : ∀ (j : Nat) t v, Tryz.f3.params[j]? = some t → args[j]? = some v → Value.okWide Tryz.prog W .any base t v)
    (hW : DataW.Whole enc Tryz.prog Tryz.f3.params.toList Rows.seriesRideSpec.vars false W args.toList ds gs before) (hk : Rows.uptoSmall H (ds ++ gs) = true) (hL : laidMetH Tryz.prog Rows.seriesRideUptoRow.laid W) :
    Calls Tryz.prog 3 args W fun e W' => ∃ v, e = .returned v ∧ Rows.seriesRideSpec.post enc Tryz.prog Tryz.f3 false true false false W args v W' := by
  have hb : Rows.uptoBulkAll (ds ++ gs) ≤ 1048576 := of_decide_eq_true hk
  have hb2 : dBulkAll ds ≤ 1048576 := by
    have h1 := dBulkAll_le (ds ++ gs)
    rw [dBulkAll_append] at h1
    omega
  exact law_contract (F := Tryz.f3) (s := Rows.seriesRideSpec) (T := A3) (B := 1048576) (tb := 4) S3 pars parsOK resT Tryz.underlying4 rfl dom false true false false W base args ds gs before (fun l hl => spec H l hl) hval hW hb2 (tab_laid (table hL))
set_option maxRecDepth 100000 in
theorem lifted (os : Os) (started : os.Started) (H : Type) (enc : TypeId × Value → H) (F : Stop.Interp) :
    ReturnsInHanded {} Tryz.checked os 3 .any ((Rows.OpenSpec.upto Rows.seriesRideSpec).preRow enc Tryz.prog Tryz.f3 Rows.seriesRideUptoRow.domain false Rows.seriesRideUptoRow.laid) (((Rows.OpenSpec.upto Rows.seriesRideSpec).at F).post enc Tryz.prog Tryz.f3 false true false false) := by
  obtain ⟨places, hx⟩ := reads os enc
  refine returnsInHanded_of_row (C := Tryz.checked) (s := Rows.OpenSpec.upto Rows.seriesRideSpec) own started (by kernel_rfl) Tryz.func3
    (witness_row_at (enc := enc) (C := Tryz.checked) false (laidWorld os) #[.agg #[.string ⟨#[]⟩, .string ⟨#[]⟩, .string ⟨#[]⟩, .string ⟨#[]⟩, .int .i64 0, .int .i64 0, .int .i64 0, .int .i64 0], .slice none 0 0, .slice none 0 0, .agg #[.string ⟨#[]⟩, .string ⟨#[]⟩, .string ⟨#[]⟩, .string ⟨#[]⟩, .int .i64 0, .int .i64 0, .int .i64 0, .int .i64 0, .int .i64 0, .int .i64 0, .int .i64 0, .int .i64 0, .int .i64 0, .slice none 0 0], .agg #[.string ⟨#[]⟩, .string ⟨#[]⟩, .string ⟨#[]⟩, .string ⟨#[]⟩, .int .i64 0, .int .i64 0, .int .i64 0, .int .i64 0, .int .i64 0, .int .i64 0, .int .i64 0, .int .i64 0, .int .i64 0, .slice none 0 0], .agg #[.int .i64 0, .int .i64 0]] rfl (by kernel_rfl) (by kernel_rfl) (by kernel_rfl)
      (OpenSpec.preRow_of_cond 8 hx (by kernel_rfl) (fun k hk => by cases hk; kernel_rfl) (by kernel_rfl) (laid_met os))) ?_
  intro W base args ds gs before hval hW _ hk _ hL _ _
  exact contract H enc W base args ds gs before hval hW (hk _ rfl) hL
/-- No parameter wants a stand-in; the program's own looks are off. -/
theorem plain (f : FuncId) (fn : Func) (hf : Tryz.pinned.checked.prog.funcNamed "jitney/jitlaw2.SeriesRide" = some f) (hfn : Tryz.pinned.checked.prog.funcs[f]? = some fn) :
    true = Tryz.pinned.checked.prog.looks [] ∧ ∀ (j : Nat) t, fn.params[j]? = some t → Tryz.pinned.checked.prog.wantsStandIn t = false := by
  obtain rfl : f = 3 := Option.some.inj ((show Tryz.prog.funcNamed "jitney/jitlaw2.SeriesRide" = some 3 by kernel_rfl).symm.trans hf) |>.symm
  obtain rfl : fn = Tryz.f3 := (Option.some.inj (Tryz.func3.symm.trans hfn)).symm
  refine ⟨by kernel_rfl, fun j t ht => ?_⟩
  have hm := Array.mem_of_getElem? ht
  rw [← Array.mem_toList_iff, pars] at hm
  have hall : ([23, 24, 25, 28, 28, 30] : List TypeId).all (fun t => !Tryz.prog.wantsStandIn t) = true := by kernel_rfl
  have := List.all_eq_true.1 hall t hm
  show Tryz.prog.wantsStandIn t = false
  simpa using this
end Go.Proofs.YtjkidhjkpkcnhaaGreatDoor.seriesRide
