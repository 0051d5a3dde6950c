/- Vm, part 15: whatever an operation does. Own work. -/
import Derived.Test.YtfiembgemhonlaaVmCall
set_option linter.unusedVariables false
set_option linter.unusedSimpArgs false
namespace Go.Vm
open Go.RowKit
section
variable {P : Program} {E : Env} {c : Cx} {S : St} {μ : Nat → Value} {a : Act} {w : World} {o : Oper} {al n : Nat} {ds : List Nat} {ρ : Type} {r : ρ} {K : St → Option ρ} {next : Act → World → Prop} {Q : Exit → Act → World → Prop}
theorem TRs.append {w : World} {A : Nat → Prop} {ob : Nat → OB} {μ : Nat → Value} : ∀ {l m : List PV} {vs us : List Value}, TRs w A ob μ l vs → TRs w A ob μ m us → TRs w A ob μ (l ++ m) (vs ++ us)
  | [], m, vs, us, h, k => by simp only [TRs] at h; subst h; simpa using k
  | v :: l, m, vs, us, h, k => by
    simp only [TRs] at h
    obtain ⟨x, rest, rfl, hx, hr⟩ := h
    simp only [List.cons_append, TRs]
    exact ⟨x, _, rfl, hx, TRs.append hr k⟩
theorem oidsL_map {S : St} (l : List Operand) : ∀ o ∈ PV.oidsL (l.map (opd S)), o ∈ PV.oidsL S.slots := by
  induction l with
  | nil => intro o h; simp [PV.oidsL] at h
  | cons x l ih =>
    intro o h
    simp only [List.map_cons, PV.oidsL, List.mem_append] at h
    rcases h with h | h
    · exact opd_oids h
    · exact ih o h
/-- a call, in the state -/
theorem call_step (hE : EnvOK P E) (hsr : SR c S μ a w) {c0 : Call} {x : Operand} (hop : o.op = .call c0) (hcal : c0.callee = .value x) (h : evF E o S al K = some r) (hd : ∀ t, o.dst = some t → t ∈ ds) (hn' : n ≤ S.objs.length)
    (hnext : ∀ S' μ' a' w', K S' = some r → SR c S' μ' a' w' → Ag n ds S μ S' μ' → next a' w') : o.wp P a w next Q := by
  simp only [evF, hop, hcal] at h
  have hf := hsr.slots.opd x
  split at h
  · rename_i g caps hx
    rw [hx] at hf
    obtain ⟨vs, he, hcaps⟩ := hf.func
    have hargs : TRs w (av c S.ob μ) S.ob μ (c0.args.toList.map (opd S) ++ caps) (c0.args.toList.map a.eval ++ vs.toList) := (hsr.slots.trs _).append hcaps
    obtain ⟨hen, hcalls⟩ := call_sound (n := n) (hE.2 g) h hsr hargs (fun o ho => by
      rw [oidsL_append, List.mem_append] at ho
      rcases ho with ho | ho
      · exact oidsL_map _ o ho
      · exact opd_oids (x := x) (by rw [hx]; simpa [PV.oids] using ho)) hn'
    have hrun : (execOp a.eval o).run P w = .ok (.enter g (c0.args.map a.eval ++ vs)) w := by
      simp only [execOp, hop, resolve, hcal, he, Deferred.ofValue, invoke, Sem.run_bind, Sem.run_pure, Result.andThen, hen]
      rw [← hen (c0.args.map a.eval ++ vs) w]
      simp [invoke]
    simp only [Oper.wp, hrun, Oper.upon_enter]
    have e : (c0.args.toList.map a.eval ++ vs.toList).toArray = c0.args.map a.eval ++ vs := by simp
    rw [e] at hcalls
    refine hcalls.mono ?_
    rintro e w' ⟨v, pv, S', μ', rfl, hk, h1, h2, h3⟩
    refine hnext _ μ' _ _ hk ⟨by rw [put_defers]; exact h1.defers, ?_, by rw [put_ob]; exact h1.objs, h1.keep, by rw [put_ob]; exact h1.mine⟩ ?_
    · rw [put_ob]; exact Slots.put h1.slots rfl h2
    · refine h3.trans (ds' := ds) ⟨put_len _ _ _, fun t ht => put_slots _ _ _ _ (fun e => ht (hd t e)), by rw [put_objs]; exact h3.olen, fun i _ => .inl (by rw [put_ob]), fun i hi => by rw [put_touched]; exact hi, fun i _ => by rw [put_ob]; exact Later.refl _ _ i⟩ (fun _ h => by cases h) (fun _ h => h)
  · cases h
theorem evF_sound (hE : EnvOK P E) (hsr : SR c S μ a w) (h : evF E o S al K = some r) (hd : ∀ t, o.dst = some t → t ∈ ds) (hn : n ≤ al) (hn' : n ≤ S.objs.length)
    (hnext : ∀ S' μ' a' w', K S' = some r → SR c S' μ' a' w' → Ag n ds S μ S' μ' → next a' w') : o.wp P a w next Q := by
  cases hop : o.op with
  | store t x y => exact store_sound hE.1 hsr hop h hd hn' hnext
  | slice t x lo hi mx => exact rowSlice_sound hE.1 hsr hop h hd hn hn' hnext
  | call c0 =>
    cases hcal : c0.callee with
    | value x => exact call_step hE hsr hop hcal h hd hn' hnext
    | invoke x y => simp only [evF, hop, hcal] at h; cases h
    | builtin b =>
      cases b with
      | append => exact append_sound hE.1 hsr hop hcal h hd hn hn' hnext
      | _ => exact quiet_step hE.1 hsr (by simp only [evF, hop, hcal] at h; exact h) hd hn hn' hnext
  | _ => exact quiet_step hE.1 hsr (by simp only [evF, hop] at h; exact h) hd hn hn' hnext
end
end Go.Vm
