/- Vm, part 16: regions. Own work. -/
import Derived.Test.YtfiembgemhonlaaVmEvH
set_option linter.unusedVariables false
set_option linter.unusedSimpArgs false
namespace Go.Vm
open Go.RowKit
section
variable {P : Program} {E : Env} {c : Cx} {S : St} {μ : Nat → Value} {a : Act} {w : World} {o : Oper} {al n : Nat} {ds : List Nat} {ρ : Type} {r : ρ} {K : St → Option ρ} {next : Act → World → Prop} {Q : Exit → Act → World → Prop}
/-- is it wanted? where it is known -/
def wanted (all : List Oper) (o : Oper) (S : St) : Bool :=
  match guardOf all o with
  | some (some (g, want)) => match S.slots.getD g .undef with
    | .bool b => b == want
    | _ => false
  | _ => true
theorem set_same {S : St} {g : Nat} {b : Bool} (h : S.slots.getD g .undef = .bool b) : ({ S with slots := S.slots.set g (.bool b) } : St) = S := by
  have : S.slots.set g (.bool b) = S.slots := by
    apply List.ext_getElem?
    intro i
    rw [List.getElem?_set]
    by_cases e : g = i
    · subst e
      rw [if_pos rfl]
      simp only [List.getD] at h
      split
      · cases hx : S.slots[g]? with
        | none => simp [hx] at h
        | some v => simp [hx] at h; rw [h]
      · rename_i hlt
        have : S.slots[g]? = none := by simp; omega
        rw [this]
    · rw [if_neg e]
  rw [this]
theorem wantK_some {all : List Oper} {yes no : St → Option ρ} (h : wantK all o S yes no = some r) :
    (wanted all o S = true ∧ yes S = some r) ∨ (wanted all o S = false ∧ no S = some r) := by
  unfold wantK at h
  unfold wanted
  split at h
  · cases h
  · rename_i hg
    rw [hg]
    exact .inl ⟨rfl, h⟩
  · rename_i g want hg
    rw [hg]
    simp only
    split at h
    · rename_i b hb
      rw [hb]
      simp only
      cases b <;> cases want <;> simp only [cond_true, cond_false] at h <;> rw [set_same hb] at h
      · exact .inl ⟨rfl, h⟩
      · exact .inr ⟨rfl, h⟩
      · exact .inr ⟨rfl, h⟩
      · exact .inl ⟨rfl, h⟩
    · rename_i hb
      rw [hb]
      exact .inr ⟨rfl, h⟩
    · cases h
theorem wanted_ok {ops : Array Oper} (hsr : SR c S μ a w) {yes no : St → Option ρ} (h : wantK ops.toList o S yes no = some r) : Region.wanted o (yielded ops a.tmps) = wanted ops.toList o S := by
  unfold wantK at h
  unfold wanted Region.wanted
  unfold guardOf at h ⊢
  cases hg : o.guard with
  | none => rfl
  | some p =>
    obtain ⟨i, want⟩ := p
    simp only [hg] at h ⊢
    cases hd : (ops.toList[i]?).bind (·.dst) with
    | none => simp only [hd, reduceCtorEq] at h
    | some g =>
      simp only [hd] at h ⊢
      have hd' : (ops[i]?).bind (·.dst) = some g := by rw [← hd]; simp
      simp only [yielded, hd', Option.bind_some]
      have hv := hsr.slots.opd (.tmp g)
      simp only [opd, Act.eval] at hv
      split at h
      · rename_i b hb
        rw [hb] at hv ⊢
        have e := hv.bool
        have : a.tmps[g]? = some (.bool b) := by
          cases hx : a.tmps[g]? with
          | none => simp [hx] at e; cases e
          | some v => simp [hx] at e; rw [e]
        rw [this]
        simp
      · rename_i hb
        rw [hb] at hv ⊢
        have e := hv.undef
        cases hx : a.tmps[g]? with
        | none => simp
        | some v =>
          simp [hx] at e
          subst e
          simp [Go.undef]
      · cases h
theorem SR.skip (hsr : SR c S μ a w) (hd : ∀ t, o.dst = some t → t ∈ ds) (hn : n ≤ S.objs.length) : SR c (S.put o.dst .undef) μ (a.put o.dst Go.undef) w ∧ Ag n ds S μ (S.put o.dst .undef) μ := by
  refine ⟨⟨?_, ?_, ?_, hsr.keep, ?_⟩, ?_⟩
  · rw [put_defers]; exact hsr.defers
  · rw [put_ob]; exact Slots.put hsr.slots rfl .mk_undef
  · rw [put_ob]; exact hsr.objs
  · rw [put_ob]; exact hsr.mine
  · refine ⟨put_len _ _ _, fun t ht => put_slots _ _ _ _ (fun e => ht (hd t e)), ?_, fun i _ => .inl ?_, fun i hi => ?_, fun i _ => ?_⟩
    · rw [put_objs]; exact hn
    · rw [put_ob]
    · rw [put_touched]; exact hi
    · rw [put_ob]; exact Later.refl _ _ i
theorem dstsOps_mem {l : List Oper} {o : Oper} {t : Nat} (h : o ∈ l) (ht : o.dst = some t) : t ∈ dstsOps l := by
  induction l with
  | nil => cases h
  | cons p l ih =>
    simp only [dstsOps, List.mem_append]
    rcases List.mem_cons.1 h with e | h
    · left; rw [← e, ht]; simp
    · exact .inr (ih h)
/-- operations as they stand -/
theorem evOps_sound {ops : Array Oper} (hE : EnvOK P E) : ∀ (l : List Oper) (i : Nat) {S : St} {μ : Nat → Value} {a : Act} {w : World}, ops.toList.drop i = l → evOps E ops.toList l S K = some r → SR c S μ a w → (∀ o ∈ l, ∀ t, o.dst = some t → t ∈ ds) → n ≤ S.objs.length →
    (∀ S' μ' a' w', K S' = some r → SR c S' μ' a' w' → Ag n ds S μ S' μ' → Q .normal a' w') → wpOps P ops Q (List.range' i l.length) a w
  | [], i, S, μ, a, w, hl, h, hsr, hd, hn, hQ => by
    simp only [evOps] at h
    simp only [List.length_nil, List.range'_zero, wpOps]
    exact hQ S μ a w h hsr (Ag.refl ds hn)
  | o :: l, i, S, μ, a, w, hl, h, hsr, hd, hn, hQ => by
    have hi : ops[i]? = some o := by
      have := congrArg (·[0]?) hl
      simpa using this
    have hl' : ops.toList.drop (i + 1) = l := by
      have := congrArg List.tail hl
      simpa using this
    simp only [evOps] at h
    simp only [List.length_cons, List.range'_succ, wpOps, hi]
    have hw := wanted_ok hsr h
    have hrec : ∀ S' μ' a' w', evOps E ops.toList l S' K = some r → SR c S' μ' a' w' → Ag n ds S μ S' μ' → wpOps P ops Q (List.range' (i + 1) l.length) a' w' := fun S' μ' a' w' hk hsr' hag =>
      evOps_sound hE l (i + 1) hl' hk hsr' (fun o' ho' => hd o' (by simp [ho'])) hag.olen (fun S2 μ2 a2 w2 g1 g2 g3 => hQ S2 μ2 a2 w2 g1 g2 (hag.trans g3 (fun _ h => h) (fun _ h => h)))
    rcases wantK_some h with ⟨hw1, h⟩ | ⟨hw1, h⟩
    · rw [hw, hw1, if_pos rfl]
      exact .inl (evF_sound hE hsr h (hd o (by simp)) hn hn hrec)
    · rw [hw, hw1]
      simp only [Bool.false_eq_true, if_false]
      obtain ⟨h1, h2⟩ := hsr.skip (o := o) (ds := ds) (hd o (by simp)) hn
      exact hrec _ μ _ _ h h1 h2
end
end Go.Vm
