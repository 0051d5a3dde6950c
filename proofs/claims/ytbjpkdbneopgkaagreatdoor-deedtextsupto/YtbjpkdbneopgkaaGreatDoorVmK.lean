/- Vm, part 33: functions that write a row, that use one up and make another, or that make one. Own work. -/
import Derived.Test.YtbjpkdbneopgkaaGreatDoorVmD
import Derived.Sort.Grow
import Derived.Test.YtbjpkdbneopgkaaGreatDoorVmA
import Derived.Test.YtbjpkdbneopgkaaGreatDoorVmC
set_option linter.unusedVariables false
set_option linter.unusedSimpArgs false
set_option linter.unusedSectionVars false
namespace Go.Vm
variable [MonotC]
open Go.RowKit
section
variable {P : Program} {w w' : World} {A A' : Nat → Prop}
theorem RowAt.len {T : Ty} {xs : List T.den} {v : Value} (h : RowAt w A T xs v) : xs.length ≤ 9223372036854775807 := by
  rcases h.cases with ⟨rfl, _⟩ | ⟨_, b, off, c, _, cs, t, _, h2, h3, _⟩
  · simp
  · omega
/-- the row that a function has been handed -/
theorem row_arg {T : Ty} {xs : List T.den} {μ : Nat → Value} (hO : Objs w A (obs [.row T xs]) μ) {x : Value} (hv : VR w A (obs [.row T xs]) μ (.row 0) x) :
    RowAt w A T xs x ∧ HeadR (μ 0) x ∧ ((¬ ∃ a, x = .slice a 0 0) → μ 0 = x) := by
  have hob : obs [.row T xs] 0 = .row T xs := rfl
  have hm := hv.row hob
  exact ⟨((hO.each 0).rowAt hob).head hm, hm, fun h => hm.elim id (fun ⟨_, e⟩ => absurd e h)⟩
theorem one_own {b : OB} {μ : Nat → Value} {x : Nat} (h : own (obs [b]) μ x) : blkOf (μ 0) = some x := by
  obtain ⟨i, h1, h2⟩ := h
  cases i with
  | zero => exact h2
  | succ i => simp [obs, OB.alive] at h1
/-- what is right of a row that is written -/
theorem wfn_post {T : Ty} {xs ys : List T.den} {μ : Nat → Value} (hO : Objs w A (obs [.row T xs]) μ) {x : Value} (hv : VR w A (obs [.row T xs]) μ (.row 0) x) {M : Nat → Prop} (hk : Keep M w w') (hM : ∀ b, M b → (¬ ∃ a, x = .slice a 0 0) ∧ blkOf x = some b)
    (hr : RowAt w' A T ys x) : CallPost w w' A [.row T xs] μ [.row T ys] μ (.tup []) (.tuple #[]) := by
  obtain ⟨h1, h2, h3⟩ := row_arg hO hv
  have hob : obs [.row T ys] 0 = .row T ys := rfl
  have hown : ∀ b, own (obs [.row T ys]) μ b → own (obs [.row T xs]) μ b := fun b hb => ⟨0, rfl, one_own hb⟩
  have hsub : ∀ b, (A b ∨ own (obs [.row T ys]) μ b) → A b := fun b hb => hb.elim id (fun h => hO.mine b (hown b h))
  have hMo : ∀ b, M b → own (obs [.row T xs]) μ b := fun b hb => by
    obtain ⟨g1, g2⟩ := hM b hb
    exact ⟨0, rfl, by rw [h3 g1]; exact g2⟩
  refine ⟨Nat.le_refl _, hk.mono (fun b _ hb => hMo b hb), ⟨fun o => ?_, fun o o' b h1 h2 h3 h4 => ?_, fun b hb => .inr hb, fun b hb => Nat.lt_of_lt_of_le (hO.old b (hsub b hb)) hk.size, lay_keep hO.lay hk (fun b _ hb => hsub b hb) (fun b hb => hO.mine b (hMo b hb))⟩, ?_, fun b hb => .inl (hown b hb), fun i hi => ?_⟩
  · cases o with
    | zero =>
      rcases hr.cases with ⟨rfl, hz⟩ | ⟨hz, b, off, c, e, hreal⟩
      · rcases h2 with h2 | h2
        · have h4 := hO.each 0
          unfold OR at h4 ⊢
          simp only [obs, List.getD_cons_zero] at h4 ⊢
          obtain ⟨a, hz⟩ := hz
          rcases hr with ⟨_, _⟩ | ⟨b, off, c, cs, t, e, g⟩
          · rcases h4 with ⟨_, h4⟩ | ⟨b, off, c, cs, t, e, g1, g2, g3, g4, g5⟩
            · exact .inl ⟨rfl, h4⟩
            · have hb : b < w.heap.size := hO.old b (hO.mine b ⟨0, rfl, by rw [e]; rfl⟩)
              have hMb : ¬ M b := fun h => (hM b h).1 ⟨a, hz⟩
              rw [h2, hz] at e
              simp only [Value.slice.injEq] at e
              obtain ⟨e1, e2, rfl⟩ := e
              exact .inr ⟨b, off, 0, cs, t, by rw [h2, hz, e1]; rfl, by rw [hk.block b hb hMb]; exact g1, by simp, by omega, by omega, fun i x hi => by simp [nth] at hi⟩
          · exact .inr ⟨b, off, c, cs, t, by rw [h2]; exact e, g.1, g.2.1, g.2.2.1, g.2.2.2.1, fun i x hi => by simp [nth] at hi⟩
        · unfold OR
          simp only [obs, List.getD_cons_zero]
          exact .inl ⟨rfl, h2.1⟩
      · exact (hreal.mono hsub).or hob (by rw [h3 hz]; exact e)
    | succ o => unfold OR; simp [obs]
  · cases o with
    | zero =>
      cases o' with
      | zero => rfl
      | succ o' => simp [obs, OB.alive] at h2
    | succ o => simp [obs, OB.alive] at h1
  · refine .of_one ?_ rfl rfl
    simp only [CR, TRs]
    exact ⟨_, rfl, rfl⟩
  · have hi0 : i = 0 := by simpa using hi
    subst hi0
    unfold Later
    simp only [obs, List.getD_cons_zero]
    exact ⟨⟨xs, rfl⟩, trivial⟩
variable {E : Nat → Env}
end
end Go.Vm

/- Vm, part 34: sorts of the library, by the contracts of the kit. Own work. -/
set_option linter.unusedVariables false
set_option linter.unusedSimpArgs false
set_option linter.unusedSectionVars false
namespace Go.Vm
variable [MonotC]
open Go.RowKit Go.Sort
section
variable {P : Program} {w : World} {A : Nat → Prop}
theorem put_at {α : Type} [Inhabited α] {enc : α → Value} {b off : Nat} {d : Array α} {n : Nat} {os : Array Obj} {x : Nat} (hx : x < w.heap.size) : (grow (putRow enc (Sort.ahead w n) b off d) os).heap[x]? = if x = b then (w.heap[b]?).map (onCells (putCells enc off d)) else w.heap[x]? := by
  simp only [grow, putRow, mapBlock, Sort.ahead]
  rw [Array.getElem?_append_left (by simpa using hx), Array.getElem?_modify]
  by_cases e : b = x
  · subst e; simp
  · rw [if_neg e, if_neg (fun h => e h.symm)]
theorem keep_put {α : Type} [Inhabited α] {enc : α → Value} {b off : Nat} {d : Array α} {n : Nat} {os : Array Obj} : Keep (· = b) w (grow (putRow enc (Sort.ahead w n) b off d) os) := by
  refine ⟨rfl, rfl, rfl, by simp [grow, putRow, mapBlock, Sort.ahead], fun _ => by simp [grow, putRow, mapBlock, Sort.ahead], fun a ha _ => ?_, fun x hx hn => ?_, fun x cs t z hx => ?_⟩
  rotate_left 2
  · rw [put_at (heap_lt hx)]
    by_cases e : x = b
    · subst e
      rw [if_pos rfl, hx]
      exact ⟨_, _, rfl⟩
    · rw [if_neg e]; exact ⟨cs, z, hx⟩
  · unfold World.frozen?
    rw [put_at ha]
    by_cases e : a.block = b
    · rw [if_pos e, ← e]
      cases w.heap[a.block]? with
      | none => rfl
      | some o => cases o <;> rfl
    · rw [if_neg e]
  · rw [put_at hx, if_neg hn]
theorem real_blk {T : Ty} {xs : List T.den} {b off c : Nat} (h : RealRow w A T xs b off c) : b < w.heap.size := by
  obtain ⟨cs, t, h1, _⟩ := h
  rcases Nat.lt_or_ge b w.heap.size with g | g
  · exact g
  · rw [Array.getElem?_eq_none g] at h1; cases h1
end
end Go.Vm

/- Vm, part 35: slices.Compact, for whatever elements. Own work. -/
set_option linter.unusedVariables false
set_option linter.unusedSimpArgs false
namespace Go.Vm
section
variable {σ τ : Type}
end
section
variable {α : Type}
variable (d : α) (eq ne : α → α → Bool)
variable {d eq ne}
/-! ### what slices.DeleteFunc does -/
end
end Go.Vm

/- Vm, part 35: the cells of plain data. Own work. -/
set_option linter.unusedVariables false
set_option linter.unusedSimpArgs false
namespace Go.Vm
open Go.RowKit
mutual
/-- the cells of a value that leads nowhere -/
def encT : (T : Ty) → T.den → List Value
  | .int k, x => [.int k x] | .bool, b => [.bool b] | .str, s => [.string s] | .slice _, _ => [] | .struct fs, x => encTs fs x
def encTs : (T : Tys) → T.den → List Value
  | .nil, _ => [] | .cons t ts, x => encT t x.1 ++ encTs ts x.2
end
section
variable {P : Program} {w w' : World} {A A' : Nat → Prop}
theorem go_cons {t : Ty} {ts : Tys} (h : Ty.deep.go (.cons t ts) = false) : t.deep = false ∧ Ty.deep.go ts = false := by
  cases t with
  | slice t => simp [Ty.deep.go] at h
  | struct fs => simp only [Ty.deep.go, Bool.or_eq_false_iff] at h; exact ⟨by simpa [Ty.deep] using h.1, h.2⟩
  | int k => exact ⟨rfl, by simpa [Ty.deep.go] using h⟩
  | bool => exact ⟨rfl, by simpa [Ty.deep.go] using h⟩
  | str => exact ⟨rfl, by simpa [Ty.deep.go] using h⟩
mutual
theorem DR_enc : ∀ (T : Ty) (x : T.den), T.deep = false → WF T x → DR w A T x (encT T x)
  | .int k, x, _, _ => by simp only [DR, encT]
  | .bool, x, _, _ => by simp only [DR, encT]
  | .str, x, _, h => by simp only [WF] at h; simp only [DR, encT]; exact ⟨trivial, h⟩
  | .slice t, x, h, _ => by simp [Ty.deep] at h
  | .struct fs, x, h, hw => by simp only [WF] at hw; simp only [DR, encT]; exact DRs_enc fs x (by simpa [Ty.deep] using h) hw
theorem DRs_enc : ∀ (T : Tys) (x : T.den), Ty.deep.go T = false → WFs T x → DRs w A T x (encTs T x)
  | .nil, x, _, _ => by simp only [DRs, encTs]
  | .cons t ts, x, h, hw => by
    obtain ⟨h1, h2⟩ := go_cons h
    simp only [WFs] at hw
    simp only [DRs, encTs]
    exact ⟨_, _, rfl, DR_enc t x.1 h1 hw.1, DRs_enc ts x.2 h2 hw.2⟩
end
mutual
theorem enc_DR : ∀ (T : Ty) (x : T.den) (cs : List Value), T.deep = false → DR w A T x cs → cs = encT T x
  | .int k, x, cs, _, h => by simpa only [DR, encT] using h
  | .bool, x, cs, _, h => by simpa only [DR, encT] using h
  | .str, x, cs, _, h => by simp only [DR] at h; simpa only [encT] using h.1
  | .slice t, x, cs, h, _ => by simp [Ty.deep] at h
  | .struct fs, x, cs, h, hd => by simp only [DR] at hd; simp only [encT]; exact encs_DR fs x cs (by simpa [Ty.deep] using h) hd
theorem encs_DR : ∀ (T : Tys) (x : T.den) (cs : List Value), Ty.deep.go T = false → DRs w A T x cs → cs = encTs T x
  | .nil, x, cs, _, h => by simpa only [DRs, encTs] using h
  | .cons t ts, x, cs, h, hd => by
    obtain ⟨h1, h2⟩ := go_cons h
    simp only [DRs] at hd
    obtain ⟨c1, c2, e, h3, h4⟩ := hd
    simp only [encTs]
    rw [e, enc_DR t x.1 c1 h1 h3, encs_DR ts x.2 c2 h2 h4]
end
end
end Go.Vm

/- Vm, part 39: functions that leave the objects as they were. Own work. -/
set_option linter.unusedVariables false
set_option linter.unusedSimpArgs false
set_option linter.unusedSectionVars false
namespace Go.Vm
variable [MonotC]
open Go.RowKit
/-! ### Objects that lie in one way alone -/
section
variable {w w' : World} {A A' : Nat → Prop} {l : List OB} {μ : Nat → Value}
end
section
variable {P : Program} {E : Env} {c : Cx} {S : St} {μ : Nat → Value} {a : Act} {w : World}
end
/-! ### A function that leaves the objects as they were -/
end Go.Vm
