/- Vm, part 4: how values and objects lie in memory. Own work. -/
import Derived.Test.YtfiembgemhonlaaVmCtl
import Derived.Below
import Derived.Laws.Cells
import Derived.Orders
import Derived.RowKit3
namespace Go.Vm
open Go.RowKit

/-! ### Worlds -/
/-- Of what was there only blocks of M may have changed. -/
structure Keep (M : Nat → Prop) (w w' : World) : Prop where
  os : w'.os = w.os
  tape : w'.tape = w.tape
  output : w'.output = w.output
  size : w.heap.size ≤ w'.heap.size
  froz : ∀ a, w'.frozen? a = w.frozen? a
  block : ∀ b, b < w.heap.size → ¬ M b → w'.heap[b]? = w.heap[b]?
theorem Keep.refl (M : Nat → Prop) (w : World) : Keep M w w := ⟨rfl, rfl, rfl, Nat.le_refl _, fun _ => rfl, fun _ _ _ => rfl⟩
theorem Keep.trans {M M' M'' : Nat → Prop} {a b c : World} (h : Keep M a b) (k : Keep M' b c) (h1 : ∀ x, M x → M'' x) (h2 : ∀ x, x < a.heap.size → M' x → M'' x) : Keep M'' a c :=
  ⟨k.os.trans h.os, k.tape.trans h.tape, k.output.trans h.output, Nat.le_trans h.size k.size, fun x => (k.froz x).trans (h.froz x), fun x hx hn =>
    (k.block x (Nat.lt_of_lt_of_le hx h.size) (fun hm => hn (h2 x hx hm))).trans (h.block x hx (fun hm => hn (h1 x hm)))⟩
theorem Keep.mono {M M' : Nat → Prop} {w w' : World} (h : Keep M w w') (hm : ∀ x, x < w.heap.size → M x → M' x) : Keep M' w w' :=
  ⟨h.os, h.tape, h.output, h.size, h.froz, fun b hb hn => h.block b hb (fun hx => hn (hm b hb hx))⟩
theorem Keep.alloc (M : Nat → Prop) (w : World) (cs : Array Value) (t : TypeId) : Keep M w (w.alloc (.cells cs t (0, 0))) :=
  ⟨rfl, rfl, rfl, by simp, fun a => frozen?_alloc_cells w cs t a, fun b hb _ => Below.heap_alloc w _ b hb⟩
theorem Keep.drew (M : Nat → Prop) (w : World) : Keep M w { w with drawn := w.drawn + 1 } := ⟨rfl, rfl, rfl, Nat.le_refl _, fun _ => rfl, fun _ _ _ => rfl⟩
def None (_ : Nat) : Prop := False
theorem Keep.cell {M : Nat → Prop} {w w' : World} (h : Keep M w w') {b off : Nat} {v : Value} (hn : ¬ M b) (hc : w.cell? ⟨b, off, none⟩ = some v) : w'.cell? ⟨b, off, none⟩ = some v := by
  have hb : b < w.heap.size := World.block_lt_of_cell? w ⟨b, off, none⟩ hc
  rw [World.cell?_of_block (w := w) (a := ⟨b, off, none⟩) (h.block b hb hn)]; exact hc

/-! ### Plain data -/
def nth {α : Type} (xs : List α) (i : Nat) : Option α := xs[i]?
set_option linter.unusedVariables false
mutual
/-- x lies in these cells; what it leads to lies in blocks that are not of A -/
def DR (w : World) (A : Nat → Prop) : (T : Ty) → T.den → List Value → Prop
  | .int k, x, cs => cs = [.int k x]
  | .bool, b, cs => cs = [.bool b]
  | .str, s, cs => cs = [.string s] ∧ s.size ≤ 9223372036854775807
  | .slice T, xs, cs => ∃ a c, cs = [.slice a (List.length xs) c] ∧ (List.length xs ≤ c ∧ c ≤ 9223372036854775807) ∧
      (xs = [] ∨ ∃ b off, a = some ⟨b, off, none⟩ ∧ ¬ A b ∧ b < w.heap.size ∧ ∀ i x, nth (α := T.den) xs i = some x → ∃ cs', DR w A T x cs' ∧ ∀ j v, cs'[j]? = some v → w.cell? ⟨b, off + i * T.cells + j, none⟩ = some v)
  | .struct fs, x, cs => DRs w A fs x cs
def DRs (w : World) (A : Nat → Prop) : (T : Tys) → T.den → List Value → Prop
  | .nil, _, cs => cs = []
  | .cons t ts, x, cs => ∃ c1 c2, cs = c1 ++ c2 ∧ DR w A t x.1 c1 ∧ DRs w A ts x.2 c2
end
mutual
theorem DR.len {w : World} {A : Nat → Prop} : ∀ (T : Ty) (x : T.den) (cs : List Value), DR w A T x cs → cs.length = T.cells
  | .int _, _, _, h => by simp only [DR] at h; subst h; rfl
  | .bool, _, _, h => by simp only [DR] at h; subst h; rfl
  | .str, _, _, h => by simp only [DR] at h; rw [h.1]; rfl
  | .slice _, _, _, h => by simp only [DR] at h; obtain ⟨a, c, rfl, _⟩ := h; rfl
  | .struct fs, x, cs, h => by simp only [DR] at h; simpa [Ty.cells] using DRs.len fs x cs h
theorem DRs.len {w : World} {A : Nat → Prop} : ∀ (T : Tys) (x : T.den) (cs : List Value), DRs w A T x cs → cs.length = T.cells
  | .nil, _, _, h => by simp only [DRs] at h; subst h; rfl
  | .cons t ts, x, cs, h => by
    simp only [DRs] at h
    obtain ⟨c1, c2, rfl, h1, h2⟩ := h
    simp [Tys.cells, DR.len t x.1 c1 h1, DRs.len ts x.2 c2 h2]
end
mutual
theorem DR.keep {w w' : World} {A A' M : Nat → Prop} (hk : Keep M w w') (hA : ∀ b, b < w.heap.size → A' b → A b) (hM : ∀ b, M b → A b) : ∀ (T : Ty) (x : T.den) (cs : List Value), DR w A T x cs → DR w' A' T x cs
  | .int _, _, _, h => by simpa only [DR] using h
  | .bool, _, _, h => by simpa only [DR] using h
  | .str, _, _, h => by simpa only [DR] using h
  | .slice T, xs, cs, h => by
    simp only [DR] at h ⊢
    obtain ⟨a, c, e, hc, h⟩ := h
    refine ⟨a, c, e, hc, h.imp id ?_⟩
    rintro ⟨b, off, rfl, hn, hb, hx⟩
    refine ⟨b, off, rfl, fun h' => hn (hA b hb h'), Nat.lt_of_lt_of_le hb hk.size, fun i x hi => ?_⟩
    obtain ⟨cs', h1, h2⟩ := hx i x hi
    exact ⟨cs', DR.keep hk hA hM T x cs' h1, fun j v hj => hk.cell (fun hm => hn (hM b hm)) (h2 j v hj)⟩
  | .struct fs, x, cs, h => by simp only [DR] at h ⊢; exact DRs.keep hk hA hM fs x cs h
theorem DRs.keep {w w' : World} {A A' M : Nat → Prop} (hk : Keep M w w') (hA : ∀ b, b < w.heap.size → A' b → A b) (hM : ∀ b, M b → A b) : ∀ (T : Tys) (x : T.den) (cs : List Value), DRs w A T x cs → DRs w' A' T x cs
  | .nil, _, _, h => by simpa only [DRs] using h
  | .cons t ts, x, cs, h => by
    simp only [DRs] at h ⊢
    obtain ⟨c1, c2, rfl, h1, h2⟩ := h
    exact ⟨c1, c2, rfl, DR.keep hk hA hM t x.1 c1 h1, DRs.keep hk hA hM ts x.2 c2 h2⟩
end

/-! ### Values -/
def nilV : CK → Value
  | .ptr => .pointer none | .func => .nilFunc | .map => .map none | .iface => .nilIface
def aggV : Value → Bool
  | .agg _ => true
  | _ => false
def blkOf : Value → Option Nat
  | .pointer (some a) => some a.block
  | .slice (some a) _ _ => some a.block
  | _ => none
/-- the cells of x, from an address on -/
def LiesAt (w : World) (b off : Nat) (cs : List Value) : Prop := ∀ j v, cs[j]? = some v → w.cell? ⟨b, off + j, none⟩ = some v
mutual
/-- these cells hold this value -/
def CR (w : World) (A : Nat → Prop) (ob : Nat → OB) (μ : Nat → Value) : PV → List Value → Prop
  | .any, cs => cs.length = 1
  | .undef, cs => cs = [Go.undef]
  | .int k x, cs => cs = [.int k x]
  | .bool b, cs => cs = [.bool b]
  | .str s, cs => cs = [.string s] ∧ s.size ≤ 9223372036854775807
  | .sl T xs, cs => DR w A (.slice T) xs cs
  | .nil, cs => cs = [.slice none 0 0]
  | .nilc k, cs => cs = [nilV k]
  | .row o, cs => ∃ v, cs = [v] ∧ v.oneCell' = true ∧ (match ob o with | .row _ _ => μ o = v | _ => True)
  | .agg l, cs => CRs w A ob μ l cs
  | .tup l, cs => ∃ vs, cs = [.tuple vs] ∧ TRs w A ob μ l vs.toList
  | .ptr o p, cs => ∃ v, cs = [v] ∧ v.oneCell' = true ∧ (match ob o with | .box d _ => ∃ b off d', μ o = .pointer (some ⟨b, 0, none⟩) ∧ d.off p = some (off, d') ∧ v = .pointer (some ⟨b, off, none⟩) | _ => True)
  | .el T x, cs => ∃ b off cx, cs = [.pointer (some ⟨b, off, none⟩)] ∧ ¬ A b ∧ b < w.heap.size ∧ DR w A T x cx ∧ LiesAt w b off cx
  | .elo o i p, cs => ∃ v, cs = [v] ∧ v.oneCell' = true ∧ (match ob o with | .row T _ => ∃ b off n c o2 T', μ o = .slice (some ⟨b, off, none⟩) n c ∧ T.off p = some (o2, T') ∧ 0 ≤ i ∧ v = .pointer (some ⟨b, off + i.toNat * T.cells + o2, none⟩) | _ => True)
  | .func f l, cs => ∃ vs, cs = [.func (.func f) #[] vs] ∧ TRs w A ob μ l vs.toList
def CRs (w : World) (A : Nat → Prop) (ob : Nat → OB) (μ : Nat → Value) : List PV → List Value → Prop
  | [], cs => cs = []
  | v :: l, cs => ∃ c1 c2, cs = c1 ++ c2 ∧ CR w A ob μ v c1 ∧ CRs w A ob μ l c2
def TRs (w : World) (A : Nat → Prop) (ob : Nat → OB) (μ : Nat → Value) : List PV → List Value → Prop
  | [], vs => vs = []
  | v :: l, vs => ∃ x r, vs = x :: r ∧ (v.isAny = true ∨ (CR w A ob μ v x.cells.toList ∧ aggV x = v.isAgg)) ∧ TRs w A ob μ l r
end
/-- this is that value -/
def VR (w : World) (A : Nat → Prop) (ob : Nat → OB) (μ : Nat → Value) (v : PV) (x : Value) : Prop :=
  v.isAny = true ∨ (CR w A ob μ v x.cells.toList ∧ aggV x = v.isAgg)

/-- what is now there was there, or is dead -/
def Later (ob : Nat → OB) (μ : Nat → Value) (ob' : Nat → OB) (μ' : Nat → Value) (o : Nat) : Prop :=
  match ob' o with
  | .dead => True
  | .box d _ => (∃ v, ob o = .box d v) ∧ μ' o = μ o
  | .row T _ => (∃ xs, ob o = .row T xs) ∧ μ' o = μ o
theorem Later.refl (ob : Nat → OB) (μ : Nat → Value) (o : Nat) : Later ob μ ob μ o := by
  unfold Later
  cases h : ob o <;> simp
section
variable {w w' : World} {A A' M : Nat → Prop} {ob ob' : Nat → OB} {μ μ' : Nat → Value}
mutual
theorem CR.later (hk : Keep M w w') (hA : ∀ b, b < w.heap.size → A' b → A b) (hM : ∀ b, M b → A b) : ∀ (v : PV) (hl : ∀ o ∈ v.oids, Later ob μ ob' μ' o) (cs : List Value), CR w A ob μ v cs → CR w' A' ob' μ' v cs
  | .any, _, _, h => by simpa only [CR] using h
  | .undef, _, _, h => by simpa only [CR] using h
  | .int _ _, _, _, h => by simpa only [CR] using h
  | .bool _, _, _, h => by simpa only [CR] using h
  | .str _, _, _, h => by simpa only [CR] using h
  | .sl T xs, _, cs, h => by simp only [CR] at h ⊢; exact DR.keep hk hA hM _ _ _ h
  | .nil, _, _, h => by simpa only [CR] using h
  | .nilc _, _, _, h => by simpa only [CR] using h
  | .row o, hl, cs, h => by
    simp only [CR] at h ⊢
    obtain ⟨v, e, ha, h⟩ := h
    refine ⟨v, e, ha, ?_⟩
    have := hl o (by simp [PV.oids])
    unfold Later at this
    cases hb : ob' o <;> simp only [hb] at this ⊢
    obtain ⟨⟨xs, hx⟩, hm⟩ := this
    simp only [hx] at h
    rw [hm]; exact h
  | .agg l, hl, cs, h => by simp only [CR] at h ⊢; exact CRs.later hk hA hM l (fun o ho => hl o (by simpa [PV.oids] using ho)) cs h
  | .tup l, hl, cs, h => by
    simp only [CR] at h ⊢
    obtain ⟨vs, e, h⟩ := h
    exact ⟨vs, e, TRs.later hk hA hM l (fun o ho => hl o (by simpa [PV.oids] using ho)) _ h⟩
  | .ptr o p, hl, cs, h => by
    simp only [CR] at h ⊢
    obtain ⟨v, e, ha, h⟩ := h
    refine ⟨v, e, ha, ?_⟩
    have := hl o (by simp [PV.oids])
    unfold Later at this
    cases hb : ob' o <;> simp only [hb] at this ⊢
    obtain ⟨⟨xs, hx⟩, hm⟩ := this
    simp only [hx] at h
    rw [hm]; exact h
  | .el T x, _, cs, h => by
    simp only [CR] at h ⊢
    obtain ⟨b, off, cx, e, hn, hb, hd, hc⟩ := h
    exact ⟨b, off, cx, e, fun h' => hn (hA b hb h'), Nat.lt_of_lt_of_le hb hk.size, DR.keep hk hA hM _ _ _ hd, fun j v hj => hk.cell (fun hm => hn (hM b hm)) (hc j v hj)⟩
  | .elo o i p, hl, cs, h => by
    simp only [CR] at h ⊢
    obtain ⟨v, e, ha, h⟩ := h
    refine ⟨v, e, ha, ?_⟩
    have := hl o (by simp [PV.oids])
    unfold Later at this
    cases hb : ob' o <;> simp only [hb] at this ⊢
    obtain ⟨⟨xs, hx⟩, hm⟩ := this
    simp only [hx] at h
    rw [hm]; exact h
  | .func f l, hl, cs, h => by
    simp only [CR] at h ⊢
    obtain ⟨vs, e, h⟩ := h
    exact ⟨vs, e, TRs.later hk hA hM l (fun o ho => hl o (by simpa [PV.oids] using ho)) _ h⟩
theorem CRs.later (hk : Keep M w w') (hA : ∀ b, b < w.heap.size → A' b → A b) (hM : ∀ b, M b → A b) : ∀ (l : List PV) (hl : ∀ o ∈ PV.oidsL l, Later ob μ ob' μ' o) (cs : List Value), CRs w A ob μ l cs → CRs w' A' ob' μ' l cs
  | [], _, _, h => by simpa only [CRs] using h
  | v :: l, hl, cs, h => by
    simp only [CRs] at h ⊢
    obtain ⟨c1, c2, e, h1, h2⟩ := h
    exact ⟨c1, c2, e, CR.later hk hA hM v (fun o ho => hl o (by simp [PV.oidsL, ho])) c1 h1, CRs.later hk hA hM l (fun o ho => hl o (by simp [PV.oidsL, ho])) c2 h2⟩
theorem TRs.later (hk : Keep M w w') (hA : ∀ b, b < w.heap.size → A' b → A b) (hM : ∀ b, M b → A b) : ∀ (l : List PV) (hl : ∀ o ∈ PV.oidsL l, Later ob μ ob' μ' o) (vs : List Value), TRs w A ob μ l vs → TRs w' A' ob' μ' l vs
  | [], _, _, h => by simpa only [TRs] using h
  | v :: l, hl, vs, h => by
    simp only [TRs] at h ⊢
    obtain ⟨x, r, e, h1, h2⟩ := h
    exact ⟨x, r, e, h1.imp id (fun h => ⟨CR.later hk hA hM v (fun o ho => hl o (by simp [PV.oidsL, ho])) _ h.1, h.2⟩), TRs.later hk hA hM l (fun o ho => hl o (by simp [PV.oidsL, ho])) r h2⟩
end
theorem VR.later (hk : Keep M w w') (hA : ∀ b, b < w.heap.size → A' b → A b) (hM : ∀ b, M b → A b) {v : PV} (hl : ∀ o ∈ v.oids, Later ob μ ob' μ' o) {x : Value} (h : VR w A ob μ v x) : VR w' A' ob' μ' v x :=
  h.imp id fun h => ⟨CR.later hk hA hM v hl _ h.1, h.2⟩
end

/-! ### Objects -/
/-- the blocks that the objects have -/
def own (ob : Nat → OB) (μ : Nat → Value) (b : Nat) : Prop := ∃ o, (ob o).alive = true ∧ blkOf (μ o) = some b
/-- this object lies so in memory -/
def OR (w : World) (A : Nat → Prop) (ob : Nat → OB) (μ : Nat → Value) (o : Nat) : Prop :=
  match ob o with
  | .dead => True
  | .box d v => ∃ b cs t, μ o = .pointer (some ⟨b, 0, none⟩) ∧ w.heap[b]? = some (.cells cs t (0, 0)) ∧ d.fits v = true ∧ CR w A ob μ v cs.toList
  | .row T xs => (List.length xs = 0 ∧ μ o = .slice none 0 0) ∨
      ∃ b off c cs t, μ o = .slice (some ⟨b, off, none⟩) (List.length xs) c ∧ w.heap[b]? = some (.cells cs t (0, 0)) ∧ List.length xs ≤ c ∧ c ≤ 9223372036854775807 ∧ off + c * T.cells ≤ cs.size ∧
        ∀ i x, nth (α := T.den) xs i = some x → ∃ cx, DR w A T x cx ∧ ∀ j v, cx[j]? = some v → cs[off + i * T.cells + j]? = some v
/-- two objects never share a block -/
def Apart (ob : Nat → OB) (μ : Nat → Value) : Prop := ∀ o o' b, (ob o).alive = true → (ob o').alive = true → blkOf (μ o) = some b → blkOf (μ o') = some b → o = o'
/-- all objects lie so; A is what data keep out of: all that they have, and perhaps more -/
structure Objs (w : World) (A : Nat → Prop) (ob : Nat → OB) (μ : Nat → Value) : Prop where
  each : ∀ o, OR w A ob μ o
  apart : Apart ob μ
  mine : ∀ b, own ob μ b → A b
  old : ∀ b, A b → b < w.heap.size
end Go.Vm
