/- Vm, part 33: functions that write a row, that use one up and make another, or that make one. Own work. -/
import Derived.Test.YtbjpkdbneopgkaaGreatDoorVmD
import Derived.Sort.Grow
import Derived.Test.YtbjpkdbneopgkaaGreatDoorVmA
import Derived.Test.YtbjpkdbneopgkaaGreatDoorVmF
set_option linter.unusedVariables false
set_option linter.unusedSimpArgs false
set_option linter.unusedSectionVars false
namespace Go.Vm
variable [MonotC]
open Go.RowKit
/-- a function from data to a row -/
def FSem.mfn (T : Ty) (As : Tys) (f : As.den → Option (List T.den)) : FSem where
  modes := modesOf As
  quiet := true
  run := fun args objs K => match objs with
    | [] => match implodes As args with
      | some x => (f x).bind fun ys => K (.row 0) [.row T ys]
      | none => none
    | _ :: _ => none
  param := fun args objs K => by
    cases objs with
    | nil =>
      simp only
      cases implodes As args with
      | none => rfl
      | some x => simp only; cases f x <;> rfl
    | cons b l => rfl
/-- what a function gives back, if it is a row -/
def rowRes (T : Ty) (v : PV) (l : List OB) : Option (List T.den) :=
  match v with
  | .row o => asRow? l T o
  | .sub o lo hi => (asRow? l T o).bind fun xs => some ((xs.take hi.toNat).drop lo.toNat)
  | .nil => some []
  | _ => none
section
variable {P : Program} {w w' : World} {A A' : Nat → Prop}
theorem asRow_some {l : List OB} {T : Ty} {o : Nat} {xs : List T.den} (h : asRow? l T o = some xs) : obs l o = .row T xs := by
  unfold asRow? at h
  split at h
  · rename_i U ys hob
    obtain ⟨e, h2⟩ := castL_some h
    subst e; subst h2
    exact hob
  · cases h
theorem rowRes_own {T : Ty} {ys : List T.den} {objs : List OB} {μ : Nat → Value} {res : PV} {v : Value} (hO : ∀ o, OR w A (obs objs) μ o) (hv : VR w A (obs objs) μ res v) (h : rowRes T res objs = some ys) :
    ∃ hd, HeadR hd v ∧ v.oneCell' = true ∧ (ys = [] ∧ hd = .slice none 0 0 ∨ ∃ b off c, hd = .slice (some ⟨b, off, none⟩) ys.length c ∧ RealRow w A T ys b off c) ∧ ∀ b, blkOf hd = some b → own (obs objs) μ b := by
  unfold rowRes at h
  split at h
  · rename_i o
    have hob := asRow_some h
    have hm := hv.row hob
    have hra := (hO o).rowAt hob
    have hblk : blkOf v = blkOf (μ o) ∨ ∃ a, v = .slice a 0 0 := hm.elim (fun e => .inl (by rw [e])) (fun e => .inr e.2)
    obtain ⟨hd, g1, g2, g3, g4⟩ := rowAt_own (hra.head hm) hblk
    exact ⟨hd, g1, g2, g3, fun b hb => ⟨o, by rw [hob]; rfl, g4 b hb⟩⟩
  · rename_i o lo hi
    obtain ⟨xs, h1, h2⟩ := Option.bind_eq_some_iff.1 h
    cases h2
    have hob := asRow_some h1
    obtain ⟨hra, _, hbk, _⟩ := ((hO o).rowAt hob).sub (hv.subv hob)
    obtain ⟨hd, g1, g2, g3, g4⟩ := rowAt_own hra hbk
    exact ⟨hd, g1, g2, g3, fun b hb => ⟨o, by rw [hob]; rfl, g4 b hb⟩⟩
  · cases h
    have e := hv.nil
    subst e
    exact ⟨_, .inl rfl, rfl, .inl ⟨rfl, rfl⟩, fun b hb => by cases hb⟩
  · cases h
theorem obs_last (n : Nat) (b : OB) (i : Nat) : obs (List.replicate n .dead ++ [b]) i = if i = n then b else .dead := by
  unfold obs
  simp only [List.getD, List.getElem?_append, List.length_replicate, List.getElem?_replicate]
  by_cases h : i < n
  · rw [if_pos h, if_pos h, if_neg (by omega)]; rfl
  · rw [if_neg h]
    by_cases e : i = n
    · subst e; simp
    · rw [if_neg e]
      have : i - n ≠ 0 := by omega
      cases hq : i - n with
      | zero => omega
      | succ m => simp
/-- what is right of a function that gives back a row and no other object -/
theorem row_post {T : Ty} {ys : List T.den} {objs objs' : List OB} {μ μ' : Nat → Value} {res : PV} {v : Value} (hp : CallPost w w' A objs μ objs' μ' res v) (h : rowRes T res objs' = some ys) :
    ∃ μ2, CallPost w w' A objs μ (List.replicate objs.length .dead ++ [.row T ys]) μ2 (.row objs.length) v := by
  obtain ⟨hd, g1, g2, g3, g4⟩ := rowRes_own hp.lie.each hp.res h
  refine ⟨fun i => if i = objs.length then hd else μ' i, ?_⟩
  have hown : ∀ b, own (obs (List.replicate objs.length .dead ++ [.row T ys])) (fun i => if i = objs.length then hd else μ' i) b → blkOf hd = some b := by
    rintro b ⟨i, k1, k2⟩
    rw [obs_last] at k1
    by_cases e : i = objs.length
    · simp only [e, if_true] at k2; exact k2
    · rw [if_neg e] at k1; cases k1
  have hown' : ∀ b, own (obs (List.replicate objs.length .dead ++ [.row T ys])) (fun i => if i = objs.length then hd else μ' i) b → own (obs objs') μ' b := fun b hb => g4 b (hown b hb)
  have hsub : ∀ b, (A b ∨ own (obs (List.replicate objs.length .dead ++ [.row T ys])) (fun i => if i = objs.length then hd else μ' i) b) → (A b ∨ own (obs objs') μ' b) := fun b hb => hb.imp id (hown' b)
  refine ⟨by simp, hp.keep, ⟨fun o => ?_, fun o o' b h1 h2 h3 h4 => ?_, fun b hb => .inr hb, fun b hb => hp.lie.old b (hsub b hb), fun p hp' => ⟨(hp.lie.lay p hp').1, fun a => (hp.lie.lay p hp').2 (hsub _ a)⟩⟩, ?_, fun b hb => hp.mine b (hown' b hb), fun i hi => ?_⟩
  · by_cases e : o = objs.length
    · subst e
      have hob : obs (List.replicate objs.length .dead ++ [.row T ys]) objs.length = .row T ys := by rw [obs_last, if_pos rfl]
      rcases g3 with ⟨rfl, rfl⟩ | ⟨b, off, c, e, hreal⟩
      · unfold OR
        rw [hob]
        exact .inl ⟨rfl, by simp⟩
      · exact (hreal.mono hsub).or hob (by simp [e])
    · unfold OR
      rw [obs_last, if_neg e]; trivial
  · rw [obs_last] at h1 h2
    by_cases e : o = objs.length
    · by_cases e' : o' = objs.length
      · rw [e, e']
      · rw [if_neg e'] at h2; cases h2
    · rw [if_neg e] at h1; cases h1
  · refine .of_one ?_ ?_ rfl
    · simp only [CR]
      exact ⟨v, rfl, g2, by rw [obs_last, if_pos rfl]; simpa using g1⟩
    · cases v <;> first | rfl | cases g2
  · unfold Later
    rw [obs_last, if_neg (by omega)]; trivial
variable {E : Nat → Env}
theorem mfn_of_calls {f : FuncId} {T : Ty} {As : Tys} {F : As.den → Option (List T.den)} (hen : Enters P f)
    (hg : ∀ (x : As.den) (ys : List T.den), WFs As x → F x = some ys → ∀ (w : World) (A : Nat → Prop) (μ : Nat → Value) (vals : List Value), Objs w A (obs []) μ → TRs w A (obs []) μ (explodes As x) vals →
      Calls P f vals.toArray w fun e w' => ∃ v res objs' μ', e = .returned v ∧ rowRes T res objs' = some ys ∧ CallPost w w' A [] μ objs' μ' res v) : SoundF P f (FSem.mfn T As F) := by
  intro ρ args objs K r hr
  cases objs with
  | cons b l => simp only [FSem.mfn, reduceCtorEq] at hr
  | nil =>
    simp only [FSem.mfn] at hr
    split at hr
    · rename_i x hx
      obtain ⟨ys, hy, hK⟩ := Option.bind_eq_some_iff.1 hr
      refine ⟨hen, fun w A μ vals hO hargs => ?_⟩
      refine (hg x ys (implodes_wf As args x vals hx hargs) hy w A μ vals hO (implodes_TRs As args x vals hx hargs)).mono ?_
      rintro e w' ⟨v, res, objs', μ', rfl, h1, h2⟩
      obtain ⟨μ2, h3⟩ := row_post h2 h1
      exact ⟨v, _, _, μ2, rfl, hK, h3⟩
    · cases hr
/-- A FUNCTION FROM DATA TO A ROW. -/
theorem mfn_sound (hE : ∀ k, EnvOK P (E k)) (hm : P.follows .mixedOrders = true) {H : Hints} {f : FuncId} {fn : Func} {code : Code} {nt : Nat} {rs : List ResultVar} (hf : P.funcs[f]? = some fn) (hname : (fn.name == "runtime.NumGoroutine") = false) (hb : fn.body = some code) (hnt : fn.ntmps = nt) (hrs : fn.results.toList = rs) {T : Ty} {As : Tys} {F : As.den → Option (List T.den)}
    (hg : ∀ (x : As.den) (ys : List T.den), WFs As x → F x = some ys → ∃ k, evFun (E k) H k code nt rs (explodes As x) [] (rowRes T) = some ys) : SoundF P f (FSem.mfn T As F) :=
  mfn_of_calls (enters_of hf hname hb) fun x ys hw hy w A μ vals hO hargs => by
    obtain ⟨k, hk⟩ := hg x ys hw hy
    rw [evFun_param] at hk
    split at hk
    · rename_i p hp
      have hs : SoundF P f (FSem.ev (E k) H k code nt rs) := fun_sound (hE k) hm (H := H) hf hname hb hnt hrs (fun args objs K r h => ⟨k, h⟩)
      obtain ⟨_, hcalls⟩ := hs _ [] (fun v l => some (v, l)) p hp
      refine (hcalls w A μ _ hO hargs).mono ?_
      rintro e w' ⟨v, res, objs', μ', rfl, hpe, hpost⟩
      simp only [Option.some.injEq] at hpe
      subst hpe
      exact ⟨v, _, _, μ', rfl, hk, hpost⟩
    · cases hk
end
end Go.Vm

/- Vm, part 34: sorts of the library, by the contracts of the kit. Own work. -/
set_option linter.unusedVariables false
set_option linter.unusedSimpArgs false
set_option linter.unusedSectionVars false
namespace Go.Vm
variable [MonotC]
open Go.RowKit Go.Sort
section
variable {P : Program} {w : World} {A : Nat → Prop}
end
end Go.Vm

/- Vm, part 35: slices.Compact, for whatever elements. Own work. -/
set_option linter.unusedVariables false
set_option linter.unusedSimpArgs false
namespace Go.Vm
section
variable {σ τ : Type}
end
section
variable {α : Type}
variable (d : α) (eq ne : α → α → Bool)
variable {d eq ne}
/-! ### what slices.DeleteFunc does -/
end
end Go.Vm

/- Vm, part 35: the cells of plain data. Own work. -/
set_option linter.unusedVariables false
set_option linter.unusedSimpArgs false
namespace Go.Vm
open Go.RowKit
section
variable {P : Program} {w w' : World} {A A' : Nat → Prop}
end
end Go.Vm

/- Vm, part 39: functions that leave the objects as they were. Own work. -/
set_option linter.unusedVariables false
set_option linter.unusedSimpArgs false
set_option linter.unusedSectionVars false
namespace Go.Vm
variable [MonotC]
open Go.RowKit
/-! ### Objects that lie in one way alone -/
section
variable {w w' : World} {A A' : Nat → Prop} {l : List OB} {μ : Nat → Value}
end
section
variable {P : Program} {E : Env} {c : Cx} {S : St} {μ : Nat → Value} {a : Act} {w : World}
end
/-! ### A function that leaves the objects as they were -/
end Go.Vm
