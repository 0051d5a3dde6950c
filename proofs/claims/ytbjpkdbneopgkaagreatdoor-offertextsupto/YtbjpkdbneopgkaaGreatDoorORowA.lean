/- OfferTexts: Text and Read are as specified for all offers and strings, where these are of bulk at most 1048576. Conditions: what the arguments read is of bulk at most 1048576 (UptoSaid). Own work. -/
import Derived.Test.YtbjpkdbneopgkaaGreatDoorOSnd
import Derived.Test.YtbjpkdbneopgkaaGreatDoorVmD
import Derived.HandedShaped
import Derived.Shelf.Vars
import Derived.Test.YtbjpkdbneopgkaaGreatDoorAHand
import Derived.WalkKit
import Derived.ProofKit
import Derived.OpenShut
import Derived.Deep.DeepHandedRow
import Derived.Lib.LaidTab
import Derived.Test.YtbjpkdbneopgkaaGreatDoorCards
import Derived.Test.YtbjpkdbneopgkaaGreatDoorRows
set_option linter.unusedVariables false
set_option linter.unusedSimpArgs false
namespace Go.Proofs.YtbjpkdbneopgkaaGreatDoor.offerTexts
open Go.ChangeShapes Go.WideShapes Go.ChangeAt Go.RowKit Go.Vm
mutual
theorem dBulk_le {H : Type} : ∀ d : DataW H, dBulk d ≤ Rows.uptoBulk d
  | .lit l => by cases l <;> simp [dBulk, Rows.uptoBulk]
  | .nil => by simp [dBulk, Rows.uptoBulk]
  | .ptr d => by simp [dBulk, Rows.uptoBulk]
  | .slice elems spare => by
    have := dBulkAll_le elems
    simp only [dBulk, Rows.uptoBulk]; omega
  | .agg parts => by
    have := dBulkAll_le parts
    simp only [dBulk, Rows.uptoBulk]; omega
  | .iface t d => by simp [dBulk, Rows.uptoBulk]
  | .map entries => by simp [dBulk, Rows.uptoBulk]
  | .held h => by simp [dBulk, Rows.uptoBulk]
theorem dBulkAll_le {H : Type} : ∀ l : List (DataW H), dBulkAll l ≤ Rows.uptoBulkAll l
  | [] => by simp [dBulkAll, Rows.uptoBulkAll]
  | d :: l => by
    have := dBulk_le d
    have := dBulkAll_le l
    simp only [dBulkAll, Rows.uptoBulkAll]; omega
end
theorem own : ownKnob Tryz.prog.godebug = none := by kernel_rfl
theorem pars : Tryz.f5.params.toList = [52, 9] := by kernel_rfl
theorem parsOK : chkPars Tryz.prog [52, 9] A5 = true := by kernel_rfl
theorem resT : Tryz.f5.resultTypes = #[4] := by kernel_rfl
theorem dom (x : A5.den) (hx : bulks A5 x ≤ 1048576) (_ : Rngs A5 x) : s5 x.1 x.2.1 = some (true, ()) := by
  have h0 : bulk (.slice (.struct (.cons .str (.cons .str (.cons (.int .i64) .nil))))) x.1 ≤ 1048576 := Nat.le_trans (Nat.le_add_right _ _) hx
  have l0 := len_bulk _ _ h0
  have hx1 : bulks (.cons .str .nil) x.2 ≤ 1048576 := Nat.le_trans (Nat.le_add_left _ _) hx
  unfold s5
  exact if_pos (Nat.le_trans l0 (by omega))
theorem spec (H : Type) (l : List (DataW H)) (hl : l.length = ([52, 9] : List TypeId).length) : Rows.offerTextsSpec.fn H l = { results := [.lit (.bool true)], args := l } := by
  have hl : l.length = 2 := hl
  match l, hl with
  | [d1, d2], _ => rfl
theorem tab_of_mem {P : Program} {W : World} {name : String} {k : IntKind} {zs : List Int} {g : Nat} {t e : TypeId} {n : Nat}
    (hg : P.globalNamed name = some g) (hty : (P.globals[g]?).map (·.type) = some t) (ht : P.underlying t = some (.array n e)) (he : P.underlying e = some (.int k)) (hce : P.cellsOf e = 1) (hct : P.cellsOf t = n) :
    ∀ (laid : List (String × DataW Unit)) (ps : List MemPlace), DataW.LaidVars P W laid ps → (name, Lib.tabData k zs) ∈ laid → Lib.TabIs P W name k zs
  | [], _, _, h => by cases h
  | (m, d) :: r, ps, hl, h => by
    obtain ⟨g', t', cs, fuel, p, q, hg', ht', hvar, hd, hr, _⟩ := hl
    rcases List.mem_cons.1 h with h | h
    · cases h
      obtain rfl := Option.some.inj (hg.symm.trans hg')
      obtain rfl := Option.some.inj (hty.symm.trans ht')
      unfold Lib.TabIs
      rw [hvar, ← Lib.cells_of_tab ht he hce hct hd]
    · exact tab_of_mem hg hty ht he hce hct r q hr h
theorem err_of_mem {P : Program} {W : World} {name nm : String} {d' : DataW Unit} {g : Nat} {t : TypeId} {ms : Array (String × TypeId)}
    (hg : P.globalNamed name = some g) (hty : (P.globals[g]?).map (·.type) = some t) (ht : P.underlying t = some (.interface ms)) :
    ∀ (laid : List (String × DataW Unit)) (ps : List MemPlace), DataW.LaidVars P W laid ps → (name, .iface nm d') ∈ laid → LaidAt W (g, isErr)
  | [], _, _, h => by cases h
  | (m, d) :: r, ps, hl, h => by
    obtain ⟨g', t', cs, fuel, p, q, hg', ht', hvar, hd, hr, _⟩ := hl
    rcases List.mem_cons.1 h with h | h
    · cases h
      obtain rfl := Option.some.inj (hg.symm.trans hg')
      obtain rfl := Option.some.inj (hty.symm.trans ht')
      obtain ⟨_, u, v, hcs, _, _⟩ := iface_of_trod ht hd
      unfold World.var? at hvar
      rw [hg] at hvar
      simp only [Option.bind_some] at hvar
      split at hvar
      · rename_i cs' a b e
        cases hvar
        refine ⟨_, _, _, e, .iface u v, ?_, .inr ⟨u, v, rfl⟩⟩
        rw [← Array.getElem?_toList, hcs]
        rfl
      · cases hvar
    · exact err_of_mem hg hty ht r q hr h
theorem noHandle {W : World} : laidMetH Tryz.prog Rows.offerTextsUptoRow.laid W = laidMet Tryz.prog Rows.offerTextsUptoRow.laid W := by kernel_rfl
theorem table {W : World} (h : laidMetH Tryz.prog Rows.offerTextsUptoRow.laid W) : Lib.TabIs Tryz.prog W "internal/strconv.uint64pow10" .u64 Lib.pow10Tab := by
  rw [noHandle] at h
  obtain ⟨ps, hl, _⟩ := h
  exact tab_of_mem (t := 195) gTab (by kernel_rfl) Tryz.underlying195 Tryz.underlying172 (by kernel_rfl) (by kernel_rfl) _ ps hl (by simp only [Rows.offerTextsUptoRow]; exact .tail _ (.tail _ (.head _)))
theorem tab_laid {W : World} (hsh : W.ShapedOpen Tryz.prog) (h : laidMetH Tryz.prog Rows.offerTextsUptoRow.laid W) : ∀ p ∈ theLay, LaidAt W p := by
  intro p hp
  have ht := table h
  rw [noHandle] at h
  obtain ⟨ps, hl, _⟩ := h
  rcases List.mem_cons.1 hp with rfl | hp
  · unfold Lib.TabIs World.var? at ht
    rw [gTab] at ht
    simp only [Option.bind_some] at ht
    split at ht
    · rename_i cs t z e
      cases ht
      exact ⟨_, t, z, e, rfl⟩
    · cases ht
  rcases List.mem_cons.1 hp with rfl | hp
  · exact err_of_mem (name := "strconv.ErrSyntax") (g := 2) (t := 77) (by kernel_rfl) (by kernel_rfl) Tryz.underlying77 _ ps hl (by simp only [Rows.offerTextsUptoRow]; exact .tail _ (.tail _ (.tail _ (.tail _ (.tail _ (.head _))))))
  rcases List.mem_cons.1 hp with rfl | hp
  · exact err_of_mem (name := "strconv.ErrRange") (g := 3) (t := 77) (by kernel_rfl) (by kernel_rfl) Tryz.underlying77 _ ps hl (by simp only [Rows.offerTextsUptoRow]; exact .tail _ (.tail _ (.tail _ (.tail _ (.head _)))))
  rcases List.mem_cons.1 hp with rfl | hp
  · obtain ⟨m, hm⟩ := cell_of_shapedOpen_int (P := Tryz.prog) (g := 0) (t := 3) (zero := #[.int .i64 0]) hsh (of_decide_eq_true (by kernel_rfl)) (by kernel_rfl) rfl (by kernel_rfl) (by kernel_rfl) Tryz.underlying3
    simp only [World.cell?] at hm
    split at hm
    · rename_i cs t z e
      exact ⟨cs, t, z, e, m, hm⟩
    · cases hm
  · cases hp
/-- what a variable's cells hold -/
def litV : DataW Unit → Value
  | .lit (.int k z) => .int k z
  | _ => undef
def partV : DataW Unit → List Value
  | .agg l => l.map litV
  | d => [litV d]
def cellsOf (d : DataW Unit) : Array Value := match d with
  | .agg l => (l.flatMap partV).toArray
  | _ => #[]
def lay (o : Obj) (d : DataW Unit) : Obj := match o with
  | .cells _ t frozen => .cells (cellsOf d) t frozen
  | o => o
def layE (o : Obj) (v : Value) : Obj := match o with
  | .cells _ t frozen => .cells #[v] t frozen
  | o => o
noncomputable def low : Nat := (World.holding Tryz.prog default ⟨#[], #[], []⟩).heap.size
noncomputable def laidWorld (os : Os) : World :=
  { World.holding Tryz.prog os ⟨#[.cells #[.string ⟨#[118, 97, 108, 117, 101, 32, 111, 117, 116, 32, 111, 102, 32, 114, 97, 110, 103, 101]⟩] 224, .cells #[.string ⟨#[105, 110, 118, 97, 108, 105, 100, 32, 115, 121, 110, 116, 97, 120]⟩] 224], #[], []⟩ with heap := ((((((((World.holding Tryz.prog os ⟨#[.cells #[.string ⟨#[118, 97, 108, 117, 101, 32, 111, 117, 116, 32, 111, 102, 32, 114, 97, 110, 103, 101]⟩] 224, .cells #[.string ⟨#[105, 110, 118, 97, 108, 105, 100, 32, 115, 121, 110, 116, 97, 120]⟩] 224], #[], []⟩).heap).modify 4 fun o => lay o Rows.laid_math_bits_deBruijn32tab).modify 5 fun o => lay o Rows.laid_math_bits_deBruijn64tab).modify 1 fun o => lay o Rows.laid_internal_strconv_uint64pow10).modify 7 fun o => lay o Rows.laid_unicode_utf8_acceptRanges).modify 3 fun o => layE o (.iface 222 (.pointer (some ⟨low, 0, none⟩)))).modify 2 fun o => layE o (.iface 222 (.pointer (some ⟨low + 1, 0, none⟩)))).modify 6 fun o => lay o Rows.laid_unicode_utf8_first }
theorem laid_met (os : Os) : laidMet Tryz.prog Rows.offerTextsUptoRow.laid ((laidWorld os).forCall (fun _ _ => 0) ⟨#[], #[.slice none 0 0, .string ⟨#[]⟩], []⟩).memory :=
  laidMet_of_run' 8 (by kernel_rfl) (by kernel_rfl)
theorem reads (os : Os) {H : Type} (enc : TypeId × Value → H) : ∃ places, DataW.whole enc Tryz.prog ((laidWorld os).forCall (fun _ _ => 0) ⟨#[], #[.slice none 0 0, .string ⟨#[]⟩], []⟩).memory Tryz.f5.params.toList Rows.offerTextsSpec.vars false (#[.slice none 0 0, .string ⟨#[]⟩] : Array Value).toList 8 = some ([.nil, .lit (.string [])], [], places) :=
  ⟨[], by kernel_rfl⟩
set_option maxRecDepth 100000 in
theorem contract (H : Type) (enc : TypeId × Value → H) (W : World) (base : Nat) (args : Array Value) (ds gs : List (DataW H)) (before : List MemPlace)
    (hval : ∀ (j : Nat) t v, Tryz.f5.params[j]? = some t → args[j]? = some v → Value.okWide Tryz.prog W .any base t v)
    (hW : DataW.Whole enc Tryz.prog Tryz.f5.params.toList Rows.offerTextsSpec.vars false W args.toList ds gs before) (hk : Rows.uptoSmall H (ds ++ gs) = true) (hL : laidMetH Tryz.prog Rows.offerTextsUptoRow.laid W) (hsh : W.ShapedOpen Tryz.prog) :
    Calls Tryz.prog 5 args W fun e W' => ∃ v, e = .returned v ∧ Rows.offerTextsSpec.post enc Tryz.prog Tryz.f5 false true false false W args v W' := by
  have hb : Rows.uptoBulkAll (ds ++ gs) ≤ 1048576 := of_decide_eq_true hk
  have hb2 : dBulkAll ds ≤ 1048576 := by
    have h1 := dBulkAll_le (ds ++ gs)
    rw [dBulkAll_append] at h1
    omega
  exact law_contract (F := Tryz.f5) (s := Rows.offerTextsSpec) (T := A5) (B := 1048576) (tb := 4) S5 pars parsOK resT Tryz.underlying4 rfl dom false true false false W base args ds gs before (fun l hl => spec H l hl) hval hW hb2 (tab_laid hsh hL)
set_option maxRecDepth 100000 in
theorem lifted (os : Os) (started : os.Started) (H : Type) (enc : TypeId × Value → H) (F : Stop.Interp) :
    ReturnsInHanded {} Tryz.checked os 5 .any ((Rows.OpenSpec.upto Rows.offerTextsSpec).preRow enc Tryz.prog Tryz.f5 Rows.offerTextsUptoRow.domain false Rows.offerTextsUptoRow.laid) (((Rows.OpenSpec.upto Rows.offerTextsSpec).at F).post enc Tryz.prog Tryz.f5 false true false false) := by
  obtain ⟨places, hx⟩ := reads os enc
  refine returnsInHanded_of_row (C := Tryz.checked) (s := Rows.OpenSpec.upto Rows.offerTextsSpec) own started (by kernel_rfl) Tryz.func5
    (witness_row_at (enc := enc) (C := Tryz.checked) false (laidWorld os) #[.slice none 0 0, .string ⟨#[]⟩] rfl (by kernel_rfl) (by kernel_rfl) (by kernel_rfl)
      (OpenSpec.preRow_of_cond 8 hx (by kernel_rfl) (fun k hk => by cases hk; kernel_rfl) (by kernel_rfl) (noHandle.mpr (laid_met os)))) ?_
  intro W base args ds gs before hval hW _ hk _ hL hsh _
  exact contract H enc W base args ds gs before hval hW (hk _ rfl) hL hsh
/-- No parameter wants a stand-in; the program's own looks are off. -/
theorem plain (f : FuncId) (fn : Func) (hf : Tryz.pinned.checked.prog.funcNamed "jitney/jitlaw2.OfferTexts" = some f) (hfn : Tryz.pinned.checked.prog.funcs[f]? = some fn) :
    true = Tryz.pinned.checked.prog.looks [] ∧ ∀ (j : Nat) t, fn.params[j]? = some t → Tryz.pinned.checked.prog.wantsStandIn t = false := by
  obtain rfl : f = 5 := Option.some.inj ((show Tryz.prog.funcNamed "jitney/jitlaw2.OfferTexts" = some 5 by kernel_rfl).symm.trans hf) |>.symm
  obtain rfl : fn = Tryz.f5 := (Option.some.inj (Tryz.func5.symm.trans hfn)).symm
  refine ⟨by kernel_rfl, fun j t ht => ?_⟩
  have hm := Array.mem_of_getElem? ht
  rw [← Array.mem_toList_iff, pars] at hm
  have hall : ([52, 9] : List TypeId).all (fun t => !Tryz.prog.wantsStandIn t) = true := by kernel_rfl
  have := List.all_eq_true.1 hall t hm
  show Tryz.prog.wantsStandIn t = false
  simpa using this
end Go.Proofs.YtbjpkdbneopgkaaGreatDoor.offerTexts
