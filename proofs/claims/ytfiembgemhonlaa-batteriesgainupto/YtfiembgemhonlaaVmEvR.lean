/- Vm, part 10: 'evP' is right: slices that are made or cut, built-in functions; all of it. Own work. -/
import Derived.Test.YtfiembgemhonlaaVmEvQ
import Derived.IntWalk
set_option linter.unusedVariables false
set_option linter.unusedSimpArgs false
namespace Go.Vm
open Go.RowKit

section
variable {P : Program} {E : Env} {w : World} {A : Nat → Prop} {μ : Nat → Value} {S : St} {a : Act} {o : Oper} {al : Nat} {ρ : Type} {r : ρ} {K : PV → Option OB → Option ρ}
theorem zeroV_len : ∀ (T : Ty), (zeroV T).length = T.cells := fun T => DR.len (w := default) (A := None) T _ _ (dflt_sound T)
theorem buildSlice_sound (hE : EnvTy P E) (hs : Slots w A S.ob μ S.slots a) {t : TypeId} {len : Nat} {parts : Array (Nat × Operand)} (hop : o.op = .buildSlice t len parts) (h : evP E o S al K = some r) : Right P w A μ S a o al K r := by
  simp only [evP, hop] at h
  split at h
  · rename_i T hT
    obtain ⟨e, hte, heT, hpos⟩ := elem_some hE hT
    obtain ⟨hc, h⟩ := cond_some h
    simp only [Bool.and_eq_true, decide_eq_true_eq] at hc
    obtain ⟨hlen, hsm⟩ := hc
    have hlen' : parts.toList.length = len := by simpa using hlen
    obtain ⟨xs, hxs, h⟩ := optK_some h
    obtain ⟨i, hi, hsz, hz, hby⟩ := heT.info
    have h2 := run_sizeOf' (w := w) (n := T.cells) ⟨i, hi, hsz⟩
    have h3 := run_zeroValue' (w := w) ⟨i, hi, hz⟩
    obtain ⟨cs', h4, h5, h6, _, h7⟩ := parts_fill (T := T) hs parts.toList 0 xs ((Array.range (len * T.cells)).map ((if len * T.cells = 0 then #[] else (zeroV T).toArray)[· % (if len * T.cells = 0 then #[] else (zeroV T).toArray).size]!)) hxs (by simp [hlen'])
    refine ⟨_, _, h, ?_⟩
    have hrun : (execOp a.eval o).run P w = .ok (.value (.slice (some ⟨w.heap.size, 0, none⟩) xs.length len)) (w.alloc (.cells cs' e (0, 0))) := by
      simp only [execOp, hop]
      refine run_val ?_
      rw [h6, hlen']
      simp only [Instr.buildSlice, Sem.run_bind, run_underlying hte, Result.andThen, h2]
      rw [if_neg (by omega)]
      have h4' : Instr.fill (fun i => some (i * T.cells, T.cells)) ((Array.range (len * T.cells)).map ((if len * T.cells = 0 then #[] else (zeroV T).toArray)[· % (if len * T.cells = 0 then #[] else (zeroV T).toArray).size]!)) ((parts.map fun (i, x) => (i, a.eval x)).toList) = some cs' := by
        rw [← h4]; simp
      by_cases h0 : len * T.cells = 0
      · rw [if_pos h0] at h4' ⊢
        simp only [Sem.run_bind, Sem.run_pure, Result.andThen]
        simp only [h4', Sem.run_bind, run_newRow', Result.andThen, Sem.run_pure]
      · rw [if_neg h0] at h4' ⊢
        simp only [Sem.run_bind, h3, Sem.run_pure, Result.andThen, wrapV_cells zeroV_leaf]
        simp only [h4', Sem.run_bind, run_newRow', Result.andThen, Sem.run_pure]
    rw [hrun]
    have hx : len = xs.length := by omega
    subst hx
    refine QR.row rfl (Nat.le_refl _) ?_ (by rw [h5]; simp) (fun k x hk => ?_)
    · have : xs.length * 1 ≤ xs.length * T.cells := Nat.mul_le_mul_left _ hpos
      omega
    · obtain ⟨cx, h8, h9⟩ := h7 k x hk
      exact ⟨cx, h8, fun j v hj => by simpa using h9 j v hj⟩
  · cases h
theorem makeSlice_sound (hE : EnvTy P E) (hs : Slots w A S.ob μ S.slots a) {t : TypeId} {x y : Operand} (hop : o.op = .makeSlice t x y) (h : evP E o S al K = some r) : Right P w A μ S a o al K r := by
  simp only [evP, hop] at h
  have hx := hs.opd x
  have hy := hs.opd y
  split at h
  · rename_i T n m hT hn hm
    rw [hn] at hx
    rw [hm] at hy
    have e1 := hx.int
    have e2 := hy.int
    obtain ⟨e, hte, heT, hpos⟩ := elem_some hE hT
    obtain ⟨hc, hkk⟩ := cond_some h
    simp only [Bool.and_eq_true, decide_eq_true_eq] at hc
    obtain ⟨rfl, h0, hb⟩ := hc
    obtain ⟨i, hi, hsz, hz, hby⟩ := heT.info
    have h2 := run_sizeOf' (w := w) (n := T.cells) ⟨i, hi, hsz⟩
    have h3 := run_zeroValue' (w := w) ⟨i, hi, hz⟩
    obtain ⟨k, rfl⟩ := Int.eq_ofNat_of_zero_le h0
    have hk : k ≤ 4294967296 := by omega
    have hw : IntKind.i64.wrap (k : Int) = (k : Int) := IntWalk.i64_in _ (by omega)
    have hbytes : i.bytes * k ≤ 16384 * 4294967296 := Nat.mul_le_mul hby hk
    have hbi : (i.bytes : Int) * (k : Int) ≤ 70368744177664 := by
      have := Int.ofNat_le.2 hbytes
      simpa using this
    have ht : (decide ((k : Int) < 0) || decide ((i.bytes : Int) * (k : Int) > 2 ^ 48)) = false := by
      simp only [Bool.or_eq_false_iff, decide_eq_false_iff_not]
      constructor
      · omega
      · intro hh
        have : (2 : Int) ^ 48 = 281474976710656 := by decide
        omega
    refine ⟨_, _, hkk, ?_⟩
    have hrun : (execOp a.eval o).run P w = .ok (.value (.slice (some ⟨w.heap.size, 0, none⟩) (List.replicate k T.dflt).length k))
        (w.alloc (.cells ((Array.range (k * T.cells)).map ((if k * T.cells = 0 then #[] else (zeroV T).toArray)[· % (if k * T.cells = 0 then #[] else (zeroV T).toArray).size]!)) e (0, 0))) := by
      simp only [execOp, hop]
      refine run_val ?_
      have hroom : (askRoom (k * i.bytes)).run P w = .ok () w := by
        unfold askRoom
        rw [if_neg (by rw [Nat.mul_comm]; unfold roomBytes; omega)]
        simp
      rw [e1, e2]
      simp only [Instr.makeSlice, Sem.run_bind, run_underlying hte, Result.andThen, asInt, asIntOf, Sem.run_pure, typeInfo, run_program, hi, hw, ht]
      simp only [Bool.false_or, Bool.or_self, decide_false, gt_iff_lt, Int.lt_irrefl]
      rw [if_neg (by simp)]
      simp only [Sem.run_bind, Int.toNat_natCast, hroom, Result.andThen, h2]
      by_cases h0 : k * T.cells = 0
      · simp only [h0, if_true, Sem.run_bind, Sem.run_pure, Result.andThen, run_newRow', List.length_replicate]
      · simp only [h0, if_false, Sem.run_bind, h3, Sem.run_pure, Result.andThen, wrapV_cells zeroV_leaf, run_newRow', List.length_replicate]
    simp only [Int.toNat_natCast]
    rw [hrun]
    refine QR.row rfl (by simp) (by omega) (by simp) (fun n x hn => ?_)
    simp only [nth] at hn
    rw [List.getElem?_replicate] at hn
    split at hn
    · rename_i hlt
      simp only [Option.some.injEq] at hn
      subst hn
      refine ⟨zeroV T, dflt_sound T, fun j v hj => ?_⟩
      have hjl := (List.getElem?_eq_some_iff.1 hj).1
      rw [zeroV_len] at hjl
      have hb1 : n * T.cells + j < k * T.cells := by
        have : (n + 1) * T.cells ≤ k * T.cells := Nat.mul_le_mul_right _ hlt
        rw [Nat.succ_mul] at this; omega
      have hne : ¬ k * T.cells = 0 := by omega
      rw [if_neg hne]
      simp only [Array.getElem?_map, Array.getElem?_range, hb1, if_true, Option.map_some]
      have hm : (n * T.cells + j) % (zeroV T).toArray.size = j := by
        simp only [List.size_toArray, zeroV_len]
        rw [Nat.mul_comm, Nat.mul_add_mod, Nat.mod_eq_of_lt hjl]
      rw [hm]
      simp [hj]
    · cases hn
  · cases h

theorem boundK_some (hs : Slots w A S.ob μ S.slots a) {x : Option Operand} {d : Int} {K : Int → Option ρ} (h : evP.boundK S x d K = some r) :
    ∃ n, K n = some r ∧ ((x = none ∧ n = d) ∨ ∃ y k, x = some y ∧ a.eval y = .int k n) := by
  unfold evP.boundK at h
  split at h
  · exact ⟨d, h, .inl ⟨rfl, rfl⟩⟩
  · rename_i y
    have hv := hs.opd y
    split at h
    · rename_i k n hn
      rw [hn] at hv
      exact ⟨n, h, .inr ⟨y, k, rfl, hv.int⟩⟩
    · cases h
theorem run_sliceBounds {isSl : Bool} {len cap : Nat} {lo hi : Option Operand} {l h : Int} (hl : (lo = none ∧ l = 0) ∨ ∃ y k, lo = some y ∧ a.eval y = .int k l) (hh : (hi = none ∧ h = (len : Int)) ∨ ∃ y k, hi = some y ∧ a.eval y = .int k h)
    (h0 : 0 ≤ l) (h1 : l ≤ h) (h2 : h ≤ (len : Int)) (hc : len ≤ cap) : (Instr.sliceBounds isSl len cap (lo.map a.eval) (hi.map a.eval) none).run P w = .ok (l.toNat, h.toNat, cap) w := by
  have hb : ∀ (y : Nat) (z : Value) (k : IntKind) (n : Int) (c : BoundsCode), z = .int k n → 0 ≤ n → n ≤ (y : Int) → (Instr.sliceBound z y c).run P w = .ok n.toNat w := fun y z k n c hz h3 h4 => by
    subst hz
    simp [Instr.sliceBound, asIntOf, h3, h4]
  have h3 : l ≤ ((h.toNat : Nat) : Int) := by omega
  have h4 : 0 ≤ h := by omega
  have h5 : h ≤ (cap : Int) := by omega
  rcases hl with ⟨rfl, rfl⟩ | ⟨y, k, rfl, hy⟩ <;> rcases hh with ⟨rfl, rfl⟩ | ⟨z, k2, rfl, hz⟩
  · simp [Instr.sliceBounds]
  · simp [Instr.sliceBounds, Sem.run_bind, hb _ _ _ _ _ hz h4 h5, Result.andThen]
  · simp [Instr.sliceBounds, Sem.run_bind, hb _ _ _ _ _ hy h0 h3, Result.andThen]
    have := hb len _ _ _ .sliceB hy h0 (by simpa using h3)
    simp [this]
  · simp only [Instr.sliceBounds, Option.map_some, Sem.run_bind, Sem.run_pure, Result.andThen, hb _ _ _ _ _ hz h4 h5]
    simp [hb _ _ _ _ _ hy h0 h3]
theorem drop_nth {T : Ty} {xs : List T.den} {l h i : Nat} {x : T.den} (hx : nth (α := T.den) ((xs.take h).drop l) i = some x) : nth (α := T.den) xs (l + i) = some x ∧ l + i < h := by
  simp only [nth, List.getElem?_drop, List.getElem?_take] at hx ⊢
  split at hx
  · exact ⟨hx, by assumption⟩
  · cases hx
theorem slice_sound (hE : EnvTy P E) (hs : Slots w A S.ob μ S.slots a) {t : TypeId} {x : Operand} {lo hi mx : Option Operand} (hop : o.op = .slice t x lo hi mx) (h : evP E o S al K = some r) : Right P w A μ S a o al K r := by
  simp only [evP, hop] at h
  have hv := hs.opd x
  split at h
  · split at h
    · rename_i T xs hx
      rw [hx] at hv
      split at h
      · rename_i U hU
        obtain ⟨e, hte, heT, hpos⟩ := elem_some hE hU
        obtain ⟨l, h, hl⟩ := boundK_some hs h
        obtain ⟨hh, h, hhh⟩ := boundK_some hs h
        obtain ⟨hc, h⟩ := cond_some h
        simp only [Bool.and_eq_true, decide_eq_true_eq] at hc
        obtain ⟨hUT, h0, h1, h2⟩ := hc
        have hdr := hv.sl
        simp only [DR] at hdr
        obtain ⟨a', c, ex, hcap, hdr⟩ := hdr
        simp only [List.cons.injEq, and_true] at ex
        obtain ⟨i, hi', hsz, _⟩ := heT.info
        have h5 := run_sizeOf' (w := w) (n := U.cells) ⟨i, hi', hsz⟩
        refine .plain (v := .slice (if c = l.toNat then a' else a'.map (·.add (l.toNat * U.cells))) (hh.toNat - l.toNat) (c - l.toNat)) h ?_ (.mk_sl ?_)
        · simp only [execOp, hop]
          refine run_val ?_
          rw [ex]
          simp only [Instr.sliceAt, Sem.run_bind, run_underlying hte, Result.andThen, Option.map_none]
          simp only [Instr.slice, Sem.run_bind, run_underlying hte, Result.andThen, run_sliceBounds hl hhh h0 h1 h2 hcap.1, h5, Sem.run_pure]
        · simp only [DR]
          have hlen : List.length (List.drop l.toNat (List.take hh.toNat xs)) = hh.toNat - l.toNat := by
            rw [List.length_drop, List.length_take]; omega
          refine ⟨_, c - l.toNat, by rw [hlen], by rw [hlen]; omega, ?_⟩
          by_cases hz : hh.toNat - l.toNat = 0
          · exact .inl (List.length_eq_zero_iff.1 (hlen.trans hz))
          · rcases hdr with hdr | ⟨b, off, rfl, hn, hb, hdr⟩
            · rw [hdr] at h2; simp at h2; omega
            · refine .inr ⟨b, off + l.toNat * U.cells, ?_, hn, hb, fun i y hy => ?_⟩
              · rw [if_neg (by omega)]
                simp [Addr.add_lit]
              · obtain ⟨hy', _⟩ := drop_nth hy
                obtain ⟨cx, h6, h7⟩ := hdr _ _ hy'
                refine ⟨cx, h6, fun j v hj => ?_⟩
                have := h7 j v hj
                subst hUT
                rw [Nat.add_mul] at this
                rwa [show off + l.toNat * U.cells + i * U.cells + j = off + (l.toNat * U.cells + i * U.cells) + j from by omega]
      · cases h
    · rename_i s hx
      rw [hx] at hv
      have ex := hv.str
      obtain ⟨l, h, hl⟩ := boundK_some hs h
      obtain ⟨hh, h, hhh⟩ := boundK_some hs h
      obtain ⟨hc, h⟩ := cond_some h
      simp only [Bool.and_eq_true, decide_eq_true_eq] at hc
      obtain ⟨hst, h0, h1, h2⟩ := hc
      have hu := isStr_some hE hst
      refine .plain h ?_ (.mk_str _ (by have := hv.str_size; rw [ByteArray.size_extract]; omega))
      simp only [execOp, hop]
      refine run_val ?_
      rw [ex]
      simp only [Instr.sliceAt, Sem.run_bind, run_underlying hu, Result.andThen, Option.map_none]
      simp only [Instr.slice, Sem.run_bind, run_underlying hu, Result.andThen, Option.isSome_none, Bool.false_eq_true, if_false, run_sliceBounds hl hhh h0 h1 h2 (Nat.le_refl _), Sem.run_pure]
    · cases h
  · cases h

/-! ### Built-in functions -/
theorem run_builtin {c : Call} {b : Builtin} (hop : o.op = .call c) (hc : c.callee = .builtin b) :
    ∃ cs, (execOp a.eval o).run P w = (builtin b c.argTypes o.type cs (c.args.map a.eval)).run P w := by
  simp only [execOp, hop, resolve, hc, invoke, Sem.run_bind, Sem.run_pure, Result.andThen]
  exact ⟨_, rfl⟩
theorem lenOf_sound (hE : EnvTy P E) (ho : Objs w A S.ob μ) {t : Option Nat} {x : PV} {K : PV → Option ρ} (h : lenOf E S t x K = some r) {z : Value} (hv : VR w A S.ob μ x z) (types : Array TypeId) (ht : types[0]? = t) (ty : TypeId) :
    ∃ n, K (.int .i64 n) = some r ∧ (Builtin.len_ types ty #[z]).run P w = .ok (.int .i64 n) w := by
  unfold lenOf at h
  split at h
  · cases h
  · rename_i t
    have hel : ∀ T, E.elem t = some T → ∀ a' n c, z = .slice a' n c → (Builtin.len_ types ty #[z]).run P w = .ok (.int .i64 (n : Int)) w := fun T hT a' n c hz => by
      obtain ⟨e, hte, _⟩ := elem_some hE hT
      subst hz
      simp [Builtin.len_, ht, Sem.run_bind, run_underlying hte, Result.andThen, goInt]
    split at h
    · rename_i s
      obtain ⟨hst, h⟩ := cond_some h
      have hu := isStr_some hE hst
      have e := hv.str
      subst e
      exact ⟨_, h, by simp [Builtin.len_, ht, Sem.run_bind, run_underlying hu, Result.andThen, goInt]⟩
    · rename_i T xs
      split at h
      · rename_i U hU
        have hd := hv.sl
        simp only [DR] at hd
        obtain ⟨a', c, e, _⟩ := hd
        simp only [List.cons.injEq, and_true] at e
        exact ⟨_, h, hel U hU _ _ _ e⟩
      · cases h
    · split at h
      · rename_i U hU
        exact ⟨_, h, hel U hU _ _ _ hv.nil⟩
      · cases h
    · rename_i ob
      split at h
      · rename_i U hU
        split at h
        · rename_i T xs hob
          have hm := hv.row hob
          have hor := ho.each ob
          simp only [OR, hob] at hor
          rcases hor with ⟨h0, hm'⟩ | ⟨b, off, c, cs, tt, hm', _⟩
          · rw [hm'] at hm
            refine ⟨_, h, ?_⟩
            have := hel U hU _ _ _ hm.symm
            simpa [h0] using this
          · rw [hm'] at hm
            exact ⟨_, h, hel U hU _ _ _ hm.symm⟩
        · cases h
      · cases h
    · cases h
theorem foldMM_sound {op : BinOp} {f : Value → Value → Sem Value} (hf : ∀ k x y, f (.int k x) (.int k y) = pure (.int k (if (match op with | .lss => decide (y < x) | _ => decide (y > x)) then y else x))) {K : PV → Option ρ} {ob : Nat → OB} :
    ∀ (l : List PV) (x : PV) (zs : List Value) (z : Value), foldMM op x l K = some r → VR w A ob μ x z → TRs w A ob μ l zs → ∃ pv v, K pv = some r ∧ (zs.foldlM f z).run P w = .ok v w ∧ VR w A ob μ pv v
  | [], x, zs, z, h, hx, hl => by
    simp only [TRs] at hl
    subst hl
    exact ⟨x, z, by simpa only [foldMM] using h, by simp, hx⟩
  | y :: l, x, zs, z, h, hx, hl => by
    unfold foldMM at h
    split at h
    · rename_i heq; cases heq
    · rename_i k a' k' b' l' heq
      simp only [List.cons.injEq] at heq
      obtain ⟨rfl, rfl⟩ := heq
      split at h
      · rename_i hk; subst hk
        simp only [TRs] at hl
        obtain ⟨u, zs', rfl, hu, hl⟩ := hl
        have hu' : VR w A ob μ (.int k b') u := hu
        have e1 := hx.int
        have e2 := hu'.int
        subst e1 e2
        obtain ⟨pv, v, h1, h2, h3⟩ := foldMM_sound hf l _ zs' _ h (.mk_int k _) hl
        refine ⟨pv, v, h1, ?_, h3⟩
        simp only [List.foldlM_cons, hf, Sem.run_bind, Sem.run_pure, Result.andThen]
        exact h2
      · cases h
    · cases h
theorem builtin_sound (hE : EnvTy P E) (hs : Slots w A S.ob μ S.slots a) (ho : Objs w A S.ob μ) {c : Call} (hop : o.op = .call c) (h : evP E o S al K = some r) : Right P w A μ S a o al K r := by
  simp only [evP, hop] at h
  split at h
  · rename_i hc
    split at h
    · rename_i x hx
      have hargs : c.args = #[x] := by simpa using congrArg List.toArray hx
      obtain ⟨n, h1, h2⟩ := lenOf_sound hE ho h (hs.opd x) c.argTypes rfl o.type
      refine .plain h1 ?_ (.mk_int _ _)
      obtain ⟨cs, hcs⟩ := run_builtin (P := P) (a := a) (w := w) hop hc
      rw [hcs]
      simp only [builtin]
      refine run_val ?_
      simpa [hargs] using h2
    · cases h
  · rename_i hc
    split at h
    · rename_i x l hx
      have ht := hs.trs c.args.toList
      rw [hx] at ht
      simp only [TRs] at ht
      obtain ⟨z, zs, hz, h1, h2⟩ := ht
      have hz' : (c.args.map a.eval).toList = z :: zs := by simpa using hz
      obtain ⟨pv, v, h3, h4, h5⟩ := foldMM_sound (P := P) (f := Builtin.min2) (fun k x y => by simp [Builtin.min2]) l x zs z h h1 h2
      refine .plain h3 ?_ h5
      obtain ⟨cs, hcs⟩ := run_builtin (P := P) (a := a) (w := w) hop hc
      rw [hcs]
      simp only [builtin]
      refine run_val ?_
      simp only [Builtin.min_, hz']
      exact h4
    · cases h
  · rename_i hc
    split at h
    · rename_i x l hx
      have ht := hs.trs c.args.toList
      rw [hx] at ht
      simp only [TRs] at ht
      obtain ⟨z, zs, hz, h1, h2⟩ := ht
      have hz' : (c.args.map a.eval).toList = z :: zs := by simpa using hz
      obtain ⟨pv, v, h3, h4, h5⟩ := foldMM_sound (P := P) (f := Builtin.max2) (fun k x y => by simp [Builtin.max2]) l x zs z h h1 h2
      refine .plain h3 ?_ h5
      obtain ⟨cs, hcs⟩ := run_builtin (P := P) (a := a) (w := w) hop hc
      rw [hcs]
      simp only [builtin]
      refine run_val ?_
      simp only [Builtin.max_, hz']
      exact h4
    · cases h
  · cases h
/-- EVERY OPERATION THAT CHANGES NOTHING IS RIGHT. -/
theorem evP_sound (hE : EnvTy P E) (hs : Slots w A S.ob μ S.slots a) (ho : Objs w A S.ob μ) (hf : ∀ pv b, K pv (some b) = some r → Fresh S al) (h : evP E o S al K = some r) : Right P w A μ S a o al K r := by
  have h0 := h
  unfold evP at h
  split at h <;> rename_i hx
  all_goals first
    | (refine small_sound hE hs ho hf ?_ h0; rw [hx]; trivial)
    | exact build_sound hE hs hx h0
    | exact buildSlice_sound hE hs hx h0
    | exact makeSlice_sound hE hs hx h0
    | exact load_sound hE hs ho hx h0
    | exact fieldAddr_sound hE hs ho hx h0
    | exact indexAddr_sound hE hs ho hx h0
    | exact slice_sound hE hs hx h0
    | exact builtin_sound hE hs ho hx h0
    | cases h
end
end Go.Vm
