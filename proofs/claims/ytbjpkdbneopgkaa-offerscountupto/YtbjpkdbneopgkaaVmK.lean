/- Vm, part 33: functions that write a row, that use one up and make another, or that make one. Own work. -/
import Derived.Test.YtbjpkdbneopgkaaVmD
import Derived.Sort.Grow
import Derived.Sort.EncStr
import Derived.Test.YtbjpkdbneopgkaaVmA
import Derived.Test.YtbjpkdbneopgkaaVmF
set_option linter.unusedVariables false
set_option linter.unusedSimpArgs false
set_option linter.unusedSectionVars false
namespace Go.Vm
variable [MonotC]
open Go.RowKit
/-- a row and data -/
def rowArg0 (T : Ty) (As : Tys) (args : List PV) (objs : List OB) : Option (List T.den × As.den) :=
  match args with
  | [] => none
  | v :: l => match v with
    | .row o => match objs with
      | [b] => match b with
        | .row U xs => cond (Nat.beq o 0) ((castL U T xs).bind fun ys => (implodes As l).bind fun a => some (ys, a)) none
        | _ => none
      | _ => none
    | _ => none
theorem rowArg0_some {T : Ty} {As : Tys} {args : List PV} {objs : List OB} {x : List T.den × As.den} (h : rowArg0 T As args objs = some x) : ∃ l, args = .row 0 :: l ∧ objs = [.row T x.1] ∧ implodes As l = some x.2 := by
  unfold rowArg0 at h
  split at h
  · cases h
  · split at h
    · split at h
      · split at h
        · obtain ⟨h0, h⟩ := cond_some h
          have e := Nat.eq_of_beq_eq_true h0
          subst e
          obtain ⟨ys, h1, h⟩ := Option.bind_eq_some_iff.1 h
          obtain ⟨a, h2, h⟩ := Option.bind_eq_some_iff.1 h
          obtain ⟨e, h1⟩ := castL_some h1
          subst e; subst h1
          cases h
          exact ⟨_, rfl, rfl, h2⟩
        · cases h
      · cases h
    · cases h
/-- a function that writes a row, and returns nothing -/
def FSem.wfn (T : Ty) (As : Tys) (f : List T.den → As.den → Option (List T.den)) : FSem where
  modes := [.rw T]
  quiet := false
  run := fun args objs K => match rowArg0 T As args objs with
    | some x => (f x.1 x.2).bind fun ys => K (.tup []) [.row T ys]
    | none => none
  param := fun args objs K => by
    cases rowArg0 T As args objs with
    | none => rfl
    | some x => simp only; cases f x.1 x.2 <;> rfl
/-- a function that uses up a row, and gives back another -/
def FSem.cfn (T : Ty) (As : Tys) (f : List T.den → As.den → Option (List T.den)) : FSem where
  modes := [.rw T]
  quiet := false
  run := fun args objs K => match rowArg0 T As args objs with
    | some x => (f x.1 x.2).bind fun ys => K (.row 1) [.dead, .row T ys]
    | none => none
  param := fun args objs K => by
    cases rowArg0 T As args objs with
    | none => rfl
    | some x => simp only; cases f x.1 x.2 <;> rfl
/-- a function from data to a row -/
def FSem.mfn (T : Ty) (As : Tys) (f : As.den → Option (List T.den)) : FSem where
  modes := modesOf As
  quiet := true
  run := fun args objs K => match objs with
    | [] => match implodes As args with
      | some x => (f x).bind fun ys => K (.row 0) [.row T ys]
      | none => none
    | _ :: _ => none
  param := fun args objs K => by
    cases objs with
    | nil =>
      simp only
      cases implodes As args with
      | none => rfl
      | some x => simp only; cases f x <;> rfl
    | cons b l => rfl
/-- what a function gives back, if it is a row -/
def rowRes (T : Ty) (v : PV) (l : List OB) : Option (List T.den) :=
  match v with
  | .row o => asRow? l T o
  | .sub o lo hi => (asRow? l T o).bind fun xs => some ((xs.take hi.toNat).drop lo.toNat)
  | .nil => some []
  | _ => none
section
variable {P : Program} {w w' : World} {A A' : Nat → Prop}
theorem RowAt.len {T : Ty} {xs : List T.den} {v : Value} (h : RowAt w A T xs v) : xs.length ≤ 9223372036854775807 := by
  rcases h.cases with ⟨rfl, _⟩ | ⟨_, b, off, c, _, cs, t, _, h2, h3, _⟩
  · simp
  · omega
/-- the row that a function has been handed -/
theorem row_arg {T : Ty} {xs : List T.den} {μ : Nat → Value} (hO : Objs w A (obs [.row T xs]) μ) {x : Value} (hv : VR w A (obs [.row T xs]) μ (.row 0) x) :
    RowAt w A T xs x ∧ HeadR (μ 0) x ∧ ((¬ ∃ a, x = .slice a 0 0) → μ 0 = x) := by
  have hob : obs [.row T xs] 0 = .row T xs := rfl
  have hm := hv.row hob
  exact ⟨((hO.each 0).rowAt hob).head hm, hm, fun h => hm.elim id (fun ⟨_, e⟩ => absurd e h)⟩
theorem one_own {b : OB} {μ : Nat → Value} {x : Nat} (h : own (obs [b]) μ x) : blkOf (μ 0) = some x := by
  obtain ⟨i, h1, h2⟩ := h
  cases i with
  | zero => exact h2
  | succ i => simp [obs, OB.alive] at h1
/-- what is right of a row that is written -/
theorem wfn_post {T : Ty} {xs ys : List T.den} {μ : Nat → Value} (hO : Objs w A (obs [.row T xs]) μ) {x : Value} (hv : VR w A (obs [.row T xs]) μ (.row 0) x) {M : Nat → Prop} (hk : Keep M w w') (hM : ∀ b, M b → (¬ ∃ a, x = .slice a 0 0) ∧ blkOf x = some b)
    (hr : RowAt w' A T ys x) : CallPost w w' A [.row T xs] μ [.row T ys] μ (.tup []) (.tuple #[]) := by
  obtain ⟨h1, h2, h3⟩ := row_arg hO hv
  have hob : obs [.row T ys] 0 = .row T ys := rfl
  have hown : ∀ b, own (obs [.row T ys]) μ b → own (obs [.row T xs]) μ b := fun b hb => ⟨0, rfl, one_own hb⟩
  have hsub : ∀ b, (A b ∨ own (obs [.row T ys]) μ b) → A b := fun b hb => hb.elim id (fun h => hO.mine b (hown b h))
  have hMo : ∀ b, M b → own (obs [.row T xs]) μ b := fun b hb => by
    obtain ⟨g1, g2⟩ := hM b hb
    exact ⟨0, rfl, by rw [h3 g1]; exact g2⟩
  refine ⟨Nat.le_refl _, hk.mono (fun b _ hb => hMo b hb), ⟨fun o => ?_, fun o o' b h1 h2 h3 h4 => ?_, fun b hb => .inr hb, fun b hb => Nat.lt_of_lt_of_le (hO.old b (hsub b hb)) hk.size, lay_keep hO.lay hk (fun b _ hb => hsub b hb) (fun b hb => hO.mine b (hMo b hb))⟩, ?_, fun b hb => .inl (hown b hb), fun i hi => ?_⟩
  · cases o with
    | zero =>
      rcases hr.cases with ⟨rfl, hz⟩ | ⟨hz, b, off, c, e, hreal⟩
      · rcases h2 with h2 | h2
        · have h4 := hO.each 0
          unfold OR at h4 ⊢
          simp only [obs, List.getD_cons_zero] at h4 ⊢
          obtain ⟨a, hz⟩ := hz
          rcases hr with ⟨_, _⟩ | ⟨b, off, c, cs, t, e, g⟩
          · rcases h4 with ⟨_, h4⟩ | ⟨b, off, c, cs, t, e, g1, g2, g3, g4, g5⟩
            · exact .inl ⟨rfl, h4⟩
            · have hb : b < w.heap.size := hO.old b (hO.mine b ⟨0, rfl, by rw [e]; rfl⟩)
              have hMb : ¬ M b := fun h => (hM b h).1 ⟨a, hz⟩
              rw [h2, hz] at e
              simp only [Value.slice.injEq] at e
              obtain ⟨e1, e2, rfl⟩ := e
              exact .inr ⟨b, off, 0, cs, t, by rw [h2, hz, e1]; rfl, by rw [hk.block b hb hMb]; exact g1, by simp, by omega, by omega, fun i x hi => by simp [nth] at hi⟩
          · exact .inr ⟨b, off, c, cs, t, by rw [h2]; exact e, g.1, g.2.1, g.2.2.1, g.2.2.2.1, fun i x hi => by simp [nth] at hi⟩
        · unfold OR
          simp only [obs, List.getD_cons_zero]
          exact .inl ⟨rfl, h2.1⟩
      · exact (hreal.mono hsub).or hob (by rw [h3 hz]; exact e)
    | succ o => unfold OR; simp [obs]
  · cases o with
    | zero =>
      cases o' with
      | zero => rfl
      | succ o' => simp [obs, OB.alive] at h2
    | succ o => simp [obs, OB.alive] at h1
  · refine .of_one ?_ rfl rfl
    simp only [CR, TRs]
    exact ⟨_, rfl, rfl⟩
  · have hi0 : i = 0 := by simpa using hi
    subst hi0
    unfold Later
    simp only [obs, List.getD_cons_zero]
    exact ⟨⟨xs, rfl⟩, trivial⟩
/-- A FUNCTION THAT WRITES A ROW, with a contract of its own. -/
theorem wfn_leaf {f : FuncId} {T : Ty} {As : Tys} {F : List T.den → As.den → Option (List T.den)} (hen : Enters P f)
    (h0 : ∀ a ys, WFs As a → F [] a = some ys → ys = [] ∧ ∀ (w : World) (A : Nat → Prop) (ob : Nat → OB) (μ : Nat → Value) (p : Option Addr) (vals : List Value), TRs w A ob μ (explodes As a) vals →
      Calls P f (.slice p 0 0 :: vals).toArray w fun e w' => e = .returned (.tuple #[]) ∧ Keep None w w')
    (h1 : ∀ xs a ys, xs.length ≤ 9223372036854775807 → WFs As a → F xs a = some ys → ∀ (w : World) (A : Nat → Prop) (ob : Nat → OB) (μ : Nat → Value) (b off c : Nat) (vals : List Value), RealRow w A T xs b off c → A b → TRs w A ob μ (explodes As a) vals →
      Calls P f (.slice (some ⟨b, off, none⟩) xs.length c :: vals).toArray w fun e w' => e = .returned (.tuple #[]) ∧ Keep (· = b) w w' ∧ ys.length = xs.length ∧ RealRow w' A T ys b off c) : SoundF P f (FSem.wfn T As F) := by
  intro ρ args objs K r h
  simp only [FSem.wfn] at h
  split at h
  · rename_i x hx
    obtain ⟨ys, hy, hK⟩ := Option.bind_eq_some_iff.1 h
    obtain ⟨l, rfl, rfl, h2⟩ := rowArg0_some hx
    refine ⟨hen, fun w A μ vals hO hargs => ?_⟩
    simp only [TRs] at hargs
    obtain ⟨xv, rest, rfl, hv, hrest⟩ := hargs
    have hwf := implodes_wf As l x.2 rest h2 hrest
    have htr := implodes_TRs As l x.2 rest h2 hrest
    obtain ⟨g1, g2, g3⟩ := row_arg hO hv
    rcases g1.cases with ⟨e, p, rfl⟩ | ⟨hz, b, off, c, e, hreal⟩
    · rw [e] at hy
      obtain ⟨rfl, hc⟩ := h0 x.2 ys hwf hy
      refine (hc w A _ μ p rest htr).mono ?_
      rintro e1 w' ⟨rfl, hk⟩
      exact ⟨_, _, _, μ, rfl, hK, wfn_post hO hv hk (fun b h => h.elim) (.inl ⟨rfl, p, rfl⟩)⟩
    · subst e
      have hA : A b := hO.mine b ⟨0, rfl, by rw [g3 hz]; rfl⟩
      refine (h1 x.1 x.2 ys g1.len hwf hy w A _ μ b off c rest hreal hA htr).mono ?_
      rintro e1 w' ⟨rfl, hk, hl, cs, t, hr⟩
      exact ⟨_, _, _, μ, rfl, hK, wfn_post hO hv hk (fun b h => ⟨hz, by rw [h]; rfl⟩) (.inr ⟨b, off, c, cs, t, by rw [hl], hr⟩)⟩
  · cases h
theorem asRow_some {l : List OB} {T : Ty} {o : Nat} {xs : List T.den} (h : asRow? l T o = some xs) : obs l o = .row T xs := by
  unfold asRow? at h
  split at h
  · rename_i U ys hob
    obtain ⟨e, h2⟩ := castL_some h
    subst e; subst h2
    exact hob
  · cases h
theorem rowRes_own {T : Ty} {ys : List T.den} {objs : List OB} {μ : Nat → Value} {res : PV} {v : Value} (hO : ∀ o, OR w A (obs objs) μ o) (hv : VR w A (obs objs) μ res v) (h : rowRes T res objs = some ys) :
    ∃ hd, HeadR hd v ∧ v.oneCell' = true ∧ (ys = [] ∧ hd = .slice none 0 0 ∨ ∃ b off c, hd = .slice (some ⟨b, off, none⟩) ys.length c ∧ RealRow w A T ys b off c) ∧ ∀ b, blkOf hd = some b → own (obs objs) μ b := by
  unfold rowRes at h
  split at h
  · rename_i o
    have hob := asRow_some h
    have hm := hv.row hob
    have hra := (hO o).rowAt hob
    have hblk : blkOf v = blkOf (μ o) ∨ ∃ a, v = .slice a 0 0 := hm.elim (fun e => .inl (by rw [e])) (fun e => .inr e.2)
    obtain ⟨hd, g1, g2, g3, g4⟩ := rowAt_own (hra.head hm) hblk
    exact ⟨hd, g1, g2, g3, fun b hb => ⟨o, by rw [hob]; rfl, g4 b hb⟩⟩
  · rename_i o lo hi
    obtain ⟨xs, h1, h2⟩ := Option.bind_eq_some_iff.1 h
    cases h2
    have hob := asRow_some h1
    obtain ⟨hra, _, hbk, _⟩ := ((hO o).rowAt hob).sub (hv.subv hob)
    obtain ⟨hd, g1, g2, g3, g4⟩ := rowAt_own hra hbk
    exact ⟨hd, g1, g2, g3, fun b hb => ⟨o, by rw [hob]; rfl, g4 b hb⟩⟩
  · cases h
    have e := hv.nil
    subst e
    exact ⟨_, .inl rfl, rfl, .inl ⟨rfl, rfl⟩, fun b hb => by cases hb⟩
  · cases h
theorem obs_last (n : Nat) (b : OB) (i : Nat) : obs (List.replicate n .dead ++ [b]) i = if i = n then b else .dead := by
  unfold obs
  simp only [List.getD, List.getElem?_append, List.length_replicate, List.getElem?_replicate]
  by_cases h : i < n
  · rw [if_pos h, if_pos h, if_neg (by omega)]; rfl
  · rw [if_neg h]
    by_cases e : i = n
    · subst e; simp
    · rw [if_neg e]
      have : i - n ≠ 0 := by omega
      cases hq : i - n with
      | zero => omega
      | succ m => simp
/-- what is right of a function that gives back a row and no other object -/
theorem row_post {T : Ty} {ys : List T.den} {objs objs' : List OB} {μ μ' : Nat → Value} {res : PV} {v : Value} (hp : CallPost w w' A objs μ objs' μ' res v) (h : rowRes T res objs' = some ys) :
    ∃ μ2, CallPost w w' A objs μ (List.replicate objs.length .dead ++ [.row T ys]) μ2 (.row objs.length) v := by
  obtain ⟨hd, g1, g2, g3, g4⟩ := rowRes_own hp.lie.each hp.res h
  refine ⟨fun i => if i = objs.length then hd else μ' i, ?_⟩
  have hown : ∀ b, own (obs (List.replicate objs.length .dead ++ [.row T ys])) (fun i => if i = objs.length then hd else μ' i) b → blkOf hd = some b := by
    rintro b ⟨i, k1, k2⟩
    rw [obs_last] at k1
    by_cases e : i = objs.length
    · simp only [e, if_true] at k2; exact k2
    · rw [if_neg e] at k1; cases k1
  have hown' : ∀ b, own (obs (List.replicate objs.length .dead ++ [.row T ys])) (fun i => if i = objs.length then hd else μ' i) b → own (obs objs') μ' b := fun b hb => g4 b (hown b hb)
  have hsub : ∀ b, (A b ∨ own (obs (List.replicate objs.length .dead ++ [.row T ys])) (fun i => if i = objs.length then hd else μ' i) b) → (A b ∨ own (obs objs') μ' b) := fun b hb => hb.imp id (hown' b)
  refine ⟨by simp, hp.keep, ⟨fun o => ?_, fun o o' b h1 h2 h3 h4 => ?_, fun b hb => .inr hb, fun b hb => hp.lie.old b (hsub b hb), fun p hp' => ⟨(hp.lie.lay p hp').1, fun a => (hp.lie.lay p hp').2 (hsub _ a)⟩⟩, ?_, fun b hb => hp.mine b (hown' b hb), fun i hi => ?_⟩
  · by_cases e : o = objs.length
    · subst e
      have hob : obs (List.replicate objs.length .dead ++ [.row T ys]) objs.length = .row T ys := by rw [obs_last, if_pos rfl]
      rcases g3 with ⟨rfl, rfl⟩ | ⟨b, off, c, e, hreal⟩
      · unfold OR
        rw [hob]
        exact .inl ⟨rfl, by simp⟩
      · exact (hreal.mono hsub).or hob (by simp [e])
    · unfold OR
      rw [obs_last, if_neg e]; trivial
  · rw [obs_last] at h1 h2
    by_cases e : o = objs.length
    · by_cases e' : o' = objs.length
      · rw [e, e']
      · rw [if_neg e'] at h2; cases h2
    · rw [if_neg e] at h1; cases h1
  · refine .of_one ?_ ?_ rfl
    · simp only [CR]
      exact ⟨v, rfl, g2, by rw [obs_last, if_pos rfl]; simpa using g1⟩
    · cases v <;> first | rfl | cases g2
  · unfold Later
    rw [obs_last, if_neg (by omega)]; trivial
variable {E : Nat → Env}
theorem mfn_of_calls {f : FuncId} {T : Ty} {As : Tys} {F : As.den → Option (List T.den)} (hen : Enters P f)
    (hg : ∀ (x : As.den) (ys : List T.den), WFs As x → F x = some ys → ∀ (w : World) (A : Nat → Prop) (μ : Nat → Value) (vals : List Value), Objs w A (obs []) μ → TRs w A (obs []) μ (explodes As x) vals →
      Calls P f vals.toArray w fun e w' => ∃ v res objs' μ', e = .returned v ∧ rowRes T res objs' = some ys ∧ CallPost w w' A [] μ objs' μ' res v) : SoundF P f (FSem.mfn T As F) := by
  intro ρ args objs K r hr
  cases objs with
  | cons b l => simp only [FSem.mfn, reduceCtorEq] at hr
  | nil =>
    simp only [FSem.mfn] at hr
    split at hr
    · rename_i x hx
      obtain ⟨ys, hy, hK⟩ := Option.bind_eq_some_iff.1 hr
      refine ⟨hen, fun w A μ vals hO hargs => ?_⟩
      refine (hg x ys (implodes_wf As args x vals hx hargs) hy w A μ vals hO (implodes_TRs As args x vals hx hargs)).mono ?_
      rintro e w' ⟨v, res, objs', μ', rfl, h1, h2⟩
      obtain ⟨μ2, h3⟩ := row_post h2 h1
      exact ⟨v, _, _, μ2, rfl, hK, h3⟩
    · cases hr
/-- A FUNCTION FROM DATA TO A ROW. -/
theorem mfn_sound (hE : ∀ k, EnvOK P (E k)) (hm : P.follows .mixedOrders = true) {H : Hints} {f : FuncId} {fn : Func} {code : Code} {nt : Nat} {rs : List ResultVar} (hf : P.funcs[f]? = some fn) (hname : (fn.name == "runtime.NumGoroutine") = false) (hb : fn.body = some code) (hnt : fn.ntmps = nt) (hrs : fn.results.toList = rs) {T : Ty} {As : Tys} {F : As.den → Option (List T.den)}
    (hg : ∀ (x : As.den) (ys : List T.den), WFs As x → F x = some ys → ∃ k, evFun (E k) H k code nt rs (explodes As x) [] (rowRes T) = some ys) : SoundF P f (FSem.mfn T As F) :=
  mfn_of_calls (enters_of hf hname hb) fun x ys hw hy w A μ vals hO hargs => by
    obtain ⟨k, hk⟩ := hg x ys hw hy
    rw [evFun_param] at hk
    split at hk
    · rename_i p hp
      have hs : SoundF P f (FSem.ev (E k) H k code nt rs) := fun_sound (hE k) hm (H := H) hf hname hb hnt hrs (fun args objs K r h => ⟨k, h⟩)
      obtain ⟨_, hcalls⟩ := hs _ [] (fun v l => some (v, l)) p hp
      refine (hcalls w A μ _ hO hargs).mono ?_
      rintro e w' ⟨v, res, objs', μ', rfl, hpe, hpost⟩
      simp only [Option.some.injEq] at hpe
      subst hpe
      exact ⟨v, _, _, μ', rfl, hk, hpost⟩
    · cases hk
/-- A FUNCTION THAT USES UP A ROW AND GIVES BACK ANOTHER. -/
theorem cfn_sound (hE : ∀ k, EnvOK P (E k)) (hm : P.follows .mixedOrders = true) {H : Hints} {f : FuncId} {fn : Func} {code : Code} {nt : Nat} {rs : List ResultVar} (hf : P.funcs[f]? = some fn) (hname : (fn.name == "runtime.NumGoroutine") = false) (hb : fn.body = some code) (hnt : fn.ntmps = nt) (hrs : fn.results.toList = rs) {T : Ty} {As : Tys} {F : List T.den → As.den → Option (List T.den)}
    (hg : ∀ (xs : List T.den) (a : As.den) (ys : List T.den), xs.length ≤ 9223372036854775807 → WFs As a → F xs a = some ys → ∃ k, evFun (E k) H k code nt rs (.row 0 :: explodes As a) [.row T xs] (rowRes T) = some ys) : SoundF P f (FSem.cfn T As F) := by
  intro ρ args objs K r h
  simp only [FSem.cfn] at h
  split at h
  · rename_i x hx
    obtain ⟨ys, hy, hK⟩ := Option.bind_eq_some_iff.1 h
    obtain ⟨l, rfl, rfl, h2⟩ := rowArg0_some hx
    refine ⟨enters_of hf hname hb, fun w A μ vals hO hargs => ?_⟩
    simp only [TRs] at hargs
    obtain ⟨xv, rest, rfl, hv, hrest⟩ := hargs
    have hwf := implodes_wf As l x.2 rest h2 hrest
    have htr := implodes_TRs As l x.2 rest h2 hrest
    obtain ⟨g1, g2, g3⟩ := row_arg hO hv
    obtain ⟨k, hk⟩ := hg x.1 x.2 ys g1.len hwf hy
    rw [evFun_param] at hk
    split at hk
    · rename_i p hp
      have hs : SoundF P f (FSem.ev (E k) H k code nt rs) := fun_sound (hE k) hm (H := H) hf hname hb hnt hrs (fun args objs K r h => ⟨k, h⟩)
      obtain ⟨_, hcalls⟩ := hs _ _ (fun v l => some (v, l)) p hp
      refine (hcalls w A μ (xv :: rest) hO (by simp only [TRs]; exact ⟨xv, rest, rfl, hv, htr⟩)).mono ?_
      rintro e w' ⟨v, res, objs', μ', rfl, hpe, hpost⟩
      simp only [Option.some.injEq] at hpe
      subst hpe
      obtain ⟨μ2, h3⟩ := row_post hpost hk
      exact ⟨v, _, _, μ2, rfl, hK, h3⟩
    · cases hk
  · cases h
end
/-- functions in which a slice of a row is seen -/
def mkEnvV (ts : List (Nat × TD)) (fs : List (Nat × FSem)) : Env := { mkEnv ts fs with view := true }
theorem mkEnvV_ok {P : Program} {ts : List (Nat × TD)} {fs : List (Nat × FSem)} (h1 : chkTypes P ts = true) (h2 : ∀ p ∈ fs, SoundF P p.1 p.2) : EnvOK P (mkEnvV ts fs) := mkEnv_ok h1 h2
end Go.Vm

/- Vm, part 34: sorts of the library, by the contracts of the kit. Own work. -/
set_option linter.unusedVariables false
set_option linter.unusedSimpArgs false
set_option linter.unusedSectionVars false
namespace Go.Vm
variable [MonotC]
open Go.RowKit Go.Sort
section
variable {P : Program} {w : World} {A : Nat → Prop}
theorem put_at {α : Type} [Inhabited α] {enc : α → Value} {b off : Nat} {d : Array α} {n : Nat} {os : Array Obj} {x : Nat} (hx : x < w.heap.size) : (grow (putRow enc (Sort.ahead w n) b off d) os).heap[x]? = if x = b then (w.heap[b]?).map (onCells (putCells enc off d)) else w.heap[x]? := by
  simp only [grow, putRow, mapBlock, Sort.ahead]
  rw [Array.getElem?_append_left (by simpa using hx), Array.getElem?_modify]
  by_cases e : b = x
  · subst e; simp
  · rw [if_neg e, if_neg (fun h => e h.symm)]
theorem keep_put {α : Type} [Inhabited α] {enc : α → Value} {b off : Nat} {d : Array α} {n : Nat} {os : Array Obj} : Keep (· = b) w (grow (putRow enc (Sort.ahead w n) b off d) os) := by
  refine ⟨rfl, rfl, rfl, by simp [grow, putRow, mapBlock, Sort.ahead], fun _ => by simp [grow, putRow, mapBlock, Sort.ahead], fun a ha _ => ?_, fun x hx hn => ?_, fun x cs t z hx => ?_⟩
  rotate_left 2
  · rw [put_at (heap_lt hx)]
    by_cases e : x = b
    · subst e
      rw [if_pos rfl, hx]
      exact ⟨_, _, rfl⟩
    · rw [if_neg e]; exact ⟨cs, z, hx⟩
  · unfold World.frozen?
    rw [put_at ha]
    by_cases e : a.block = b
    · rw [if_pos e, ← e]
      cases w.heap[a.block]? with
      | none => rfl
      | some o => cases o <;> rfl
    · rw [if_neg e]
  · rw [put_at hx, if_neg hn]
/-- a row of elements of one cell is written anew -/
theorem real_put {T : Ty} (hT : T.cells = 1) {xs : List T.den} {b off c : Nat} (h : RealRow w A T xs b off c) {α : Type} [Inhabited α] {enc : α → Value} {zs : List α} (hz : zs.length = xs.length) (f : α → T.den) (hdr : ∀ a ∈ zs, DR w A T (f a) [enc a]) (hA : A b) (n : Nat) (os : Array Obj) :
    RealRow (grow (putRow enc (Sort.ahead w n) b off zs.toArray) os) A T (zs.map f) b off c := by
  obtain ⟨cs, t, h1, h2, h3, h4, h5⟩ := h
  have hb : b < w.heap.size := by
    rcases Nat.lt_or_ge b w.heap.size with g | g
    · exact g
    · rw [Array.getElem?_eq_none g] at h1; cases h1
  refine ⟨putCells enc off zs.toArray cs, t, by rw [put_at hb, if_pos rfl, h1]; rfl, by rw [List.length_map, hz]; exact h2, h3, by simpa [putCells] using h4, fun i x hx => ?_⟩
  simp only [nth, List.getElem?_map, Option.map_eq_some_iff] at hx
  obtain ⟨a, ha, rfl⟩ := hx
  have hi := (List.getElem?_eq_some_iff.1 ha).1
  refine ⟨[enc a], DR.keep keep_put (fun _ _ h => h) (fun x e => by subst e; exact hA) _ _ _ (hdr a (List.mem_of_getElem? ha)), fun j v hj => ?_⟩
  cases j with
  | succ j => cases hj
  | zero =>
    simp only [List.getElem?_cons_zero, Option.some.injEq] at hj
    subst hj
    have hc : off + i * T.cells + 0 < cs.size := by
      rw [hT] at h4 ⊢; omega
    simp only [putCells, Array.getElem?_mapIdx, Array.getElem?_eq_getElem hc, Option.map_some]
    have e0 : off + i * T.cells + 0 = off + i := by rw [hT]; omega
    rw [if_pos (by rw [e0]; simp; omega), e0]
    have e1 : off + i - off = i := by omega
    rw [e1]
    have : zs.toArray[i]! = a := by
      rw [getElem!_pos zs.toArray i (by simpa using hi)]
      have := List.getElem?_eq_some_iff.1 ha
      obtain ⟨_, e⟩ := this
      simpa using e
    rw [this]
theorem real_holds {T : Ty} (hT : T.cells = 1) {xs : List T.den} {b off c : Nat} (h : RealRow w A T xs b off c) {α : Type} [Inhabited α] {enc : α → Value} {zs : List α} (hz : zs.length = xs.length)
    (hdr : ∀ (i : Nat) (x : T.den) (a : α) (cx : List Value), xs[i]? = some x → zs[i]? = some a → DR w A T x cx → cx = [enc a]) : Holds enc w b off zs.toArray := by
  obtain ⟨cs, t, h1, h2, h3, h4, h5⟩ := h
  intro j hj
  have hj' : j < zs.length := by simpa using hj
  have hx : xs[j]? = some xs[j] := List.getElem?_eq_getElem (by omega)
  obtain ⟨cx, g1, g2⟩ := h5 j _ hx
  have e := hdr j _ zs[j] cx hx (List.getElem?_eq_getElem hj') g1
  subst e
  have := g2 0 _ rfl
  refine ⟨?_, ?_⟩
  · simp only [World.cell?, h1]
    rw [hT] at this
    have e2 : zs.toArray[j]! = zs[j] := by rw [getElem!_pos zs.toArray j hj]; simp
    rw [e2]
    simpa using this
  · simp [World.frozen?, h1]
theorem real_blk {T : Ty} {xs : List T.den} {b off c : Nat} (h : RealRow w A T xs b off c) : b < w.heap.size := by
  obtain ⟨cs, t, h1, _⟩ := h
  rcases Nat.lt_or_ge b w.heap.size with g | g
  · exact g
  · rw [Array.getElem?_eq_none g] at h1; cases h1
end
end Go.Vm

/- Vm, part 34b: the library's sort of strings, by the contract of the kit. Own work. -/
set_option linter.unusedVariables false
set_option linter.unusedSimpArgs false
set_option linter.unusedSectionVars false
namespace Go.Vm
variable [MonotC]
open Go.RowKit Go.Sort Go.Proofs
section
variable {P : Program} {w : World} {A : Nat → Prop}
def bytesOf (l : List UInt8) : ByteArray := ⟨l.toArray⟩
/-- the sort of strings -/
def sortStrs (l : List ByteArray) : List ByteArray := ((l.map fun b => b.data.toList).mergeSort fun x y => decide (x ≤ y)).map bytesOf
def sortStrs? (l : List ByteArray) : Option (List ByteArray) := if l.length < 4611686018427387904 then some (sortStrs l) else none
theorem sort_str {f : FuncId} (hen : Enters P f) (h0 : ∀ (p : Option Addr) (cap : Nat) (w : World), Calls P f #[.slice p 0 cap] w fun e w' => e = .returned (.tuple #[]) ∧ w' = w)
    (h1 : ∀ (blk off cap : Nat) (ss : List (List UInt8)) (w : World), Holds encStr w blk off ss.toArray → blk < w.heap.size → ss.length < 4611686018427387904 → Calls P f #[.slice (some ⟨blk, off, none⟩) ss.length cap] w fun e w' =>
      e = .returned (.tuple #[]) ∧ ∃ n os, w' = grow (putRow encStr (Sort.ahead w n) blk off (ss.mergeSort fun x y => decide (x ≤ y)).toArray) os) : SoundF P f (FSem.wfn .str .nil fun xs _ => sortStrs? xs) := by
  refine wfn_leaf hen (fun a ys _ hy => ?_) (fun xs a ys _ hwf hy => ?_)
  · have hy : sortStrs? [] = some ys := hy
    simp only [sortStrs?, List.length_nil, show (0 : Nat) < 4611686018427387904 by omega, if_true, sortStrs, List.map_nil, List.mergeSort_nil, Option.some.injEq] at hy
    cases hy
    refine ⟨rfl, fun w A ob μ p vals hv => ?_⟩
    simp only [explodes, TRs] at hv
    subst hv
    exact (h0 p 0 w).mono fun e w' ⟨h1, h2⟩ => ⟨h1, by rw [h2]; exact Keep.refl _ _⟩
  · have hy : sortStrs? xs = some ys := hy
    unfold sortStrs? at hy
    split at hy
    · rename_i hl
      cases hy
      intro w A ob μ b off c vals hr hA hv
      simp only [explodes, TRs] at hv
      subst hv
      obtain ⟨zs, hzs⟩ : ∃ zs : List (List UInt8), zs = (show List ByteArray from xs).map fun b => b.data.toList := ⟨_, rfl⟩
      have hzl : zs.length = xs.length := by rw [hzs]; exact List.length_map ..
      have hz : (zs.mergeSort fun x y => decide (x ≤ y)).length = xs.length := by rw [List.length_mergeSort, hzl]
      have hget : ∀ (i : Nat) (x : ByteArray) (a : List UInt8), (show List ByteArray from xs)[i]? = some x → zs[i]? = some a → a = x.data.toList := fun i x a e1 e2 => by
        rw [hzs, List.getElem?_map, e1] at e2
        exact (Option.some.inj e2).symm
      have hc := h1 b off c zs w (real_holds (T := .str) rfl hr hzl fun i x a cx e1 e2 e3 => by
        have e := hget i x a e1 e2
        simp only [DR] at e3
        rw [e3.1, e]; rfl) (real_blk hr) (by rw [hzl]; exact hl)
      rw [hzl] at hc
      refine hc.mono ?_
      rintro e w' ⟨rfl, n, os, rfl⟩
      have hdr : ∀ a ∈ zs.mergeSort fun x y => decide (x ≤ y), DR w A .str (bytesOf a) [encStr a] := fun a ha => by
        rw [List.mem_mergeSort, hzs, List.mem_map] at ha
        obtain ⟨x, hx, rfl⟩ := ha
        obtain ⟨i, hi⟩ := List.getElem?_of_mem hx
        obtain ⟨cs, t, _, _, _, _, h5⟩ := hr
        obtain ⟨cx, g1, _⟩ := h5 i x hi
        simp only [DR] at g1
        simp only [DR]
        exact ⟨rfl, g1.2⟩
      have := real_put (T := .str) (w := w) (A := A) (enc := encStr) rfl hr (zs := zs.mergeSort fun x y => decide (x ≤ y)) hz bytesOf hdr hA n os
      have hs : sortStrs xs = (zs.mergeSort fun x y => decide (x ≤ y)).map bytesOf := by rw [hzs]; rfl
      rw [hs]
      exact ⟨rfl, keep_put, (List.length_map ..).trans hz, this⟩
    · cases hy
end
end Go.Vm

/- Vm, part 35: slices.Compact, for whatever elements. Own work. -/
set_option linter.unusedVariables false
set_option linter.unusedSimpArgs false
namespace Go.Vm
section
variable {σ τ : Type}
/-- A LOOP ALONG A PATH. -/
theorem iter_path {f : σ → Option (σ ⊕ τ)} {s0 : σ} {k : Nat} (st : Nat → σ) (t : τ) (n : Nat) (hs : s0 = st 0) (hk : n < k) (h1 : ∀ j, j < n → f (st j) = some (.inl (st (j + 1)))) (h2 : f (st n) = some (.inr t)) : iter k f s0 = some t := by
  have go : ∀ (k m : Nat), m ≤ n → n - m < k → iter k f (st m) = some t := by
    intro k
    induction k with
    | zero => intro m _ h; omega
    | succ k ih =>
      intro m hm h
      rcases Nat.lt_or_ge m n with hlt | hge
      · simp only [iter, h1 m hlt, Option.bind_some]
        exact ih (m + 1) (by omega) (by omega)
      · have : m = n := by omega
        subst this
        simp only [iter, h2, Option.bind_some]
  subst hs
  exact go k 0 (by omega) (by omega)
end
section
variable {α : Type}
/-- the first of each run of equal elements -/
def dedupFrom (eq : α → α → Bool) (p : α) : List α → List α
  | [] => []
  | x :: l => bif eq x p then dedupFrom eq x l else x :: dedupFrom eq x l
def dedup (eq : α → α → Bool) : List α → List α
  | [] => []
  | x :: l => x :: dedupFrom eq x l
theorem dedupFrom_snoc (eq : α → α → Bool) (x : α) : ∀ (l : List α) (p : α), dedupFrom eq p (l ++ [x]) = dedupFrom eq p l ++ (bif eq x ((p :: l).getLast (by simp)) then [] else [x])
  | [], p => by simp [dedupFrom]
  | y :: l, p => by
    simp only [List.cons_append, dedupFrom, dedupFrom_snoc eq x l y, List.getLast_cons_cons]
    cases eq y p <;> simp
theorem dedup_take (eq : α → α → Bool) {xs : List α} {j : Nat} {x p : α} (hj : 1 ≤ j) (hx : xs[j]? = some x) (hp : xs[j - 1]? = some p) : dedup eq (xs.take (j + 1)) = dedup eq (xs.take j) ++ (bif eq x p then [] else [x]) := by
  have hjl := (List.getElem?_eq_some_iff.1 hx).1
  have e : xs.take (j + 1) = xs.take j ++ [x] := by
    rw [List.take_add_one, hx]; rfl
  rw [e]
  cases hxs : xs.take j with
  | nil =>
    rw [List.take_eq_nil_iff] at hxs
    rcases hxs with h | h
    · omega
    · rw [h] at hjl; simp at hjl
  | cons y l =>
    simp only [dedup, List.cons_append, dedupFrom_snoc]
    have hlast : (y :: l).getLast (by simp) = p := by
      have h1 : (xs.take j).getLast? = some p := by
        rw [List.getLast?_eq_getElem?, List.length_take, Nat.min_eq_left (by omega), List.getElem?_take, if_pos (by omega), hp]
      rw [hxs, List.getLast?_eq_some_getLast (by simp)] at h1
      exact Option.some.inj h1
    rw [hlast]
theorem first_dup (eq : α → α → Bool) (xs : List α) : ∀ n, 1 ≤ n → n ≤ xs.length → (∀ j, 1 ≤ j → j < n → ∀ x p, xs[j]? = some x → xs[j - 1]? = some p → eq x p = false) ∨
    ∃ k, 1 ≤ k ∧ k < n ∧ (∃ x p, xs[k]? = some x ∧ xs[k - 1]? = some p ∧ eq x p = true) ∧ ∀ j, 1 ≤ j → j < k → ∀ x p, xs[j]? = some x → xs[j - 1]? = some p → eq x p = false
  | 0, h, _ => by omega
  | 1, _, _ => .inl fun j h1 h2 => by omega
  | n + 2, _, hn => by
    rcases first_dup eq xs (n + 1) (by omega) (by omega) with h | ⟨k, h1, h2, h3⟩
    · have hx : xs[n + 1]? = some xs[n + 1] := List.getElem?_eq_getElem (by omega)
      have hp : xs[n]? = some xs[n] := List.getElem?_eq_getElem (by omega)
      by_cases he : eq xs[n + 1] xs[n] = true
      · exact .inr ⟨n + 1, by omega, by omega, ⟨_, _, hx, hp, he⟩, h⟩
      · refine .inl fun j h1 h2 x p hx' hp' => ?_
        by_cases e : j = n + 1
        · subst e
          rw [hx] at hx'; rw [show n + 1 - 1 = n from rfl, hp] at hp'
          cases hx'; cases hp'
          simpa using he
        · exact h j h1 (by omega) x p hx' hp'
    · exact .inr ⟨k, h1, by omega, h3⟩
theorem dedup_none (eq : α → α → Bool) {xs : List α} : ∀ n, n ≤ xs.length → (∀ j, 1 ≤ j → j < n → ∀ x p, xs[j]? = some x → xs[j - 1]? = some p → eq x p = false) → dedup eq (xs.take n) = xs.take n
  | 0, _, _ => by simp [dedup]
  | 1, h, _ => by
    cases xs with
    | nil => simp at h
    | cons x l => simp [dedup, dedupFrom]
  | n + 2, h, hno => by
    have hx : xs[n + 1]? = some xs[n + 1] := List.getElem?_eq_getElem (by omega)
    have hp : xs[n]? = some xs[n] := List.getElem?_eq_getElem (by omega)
    rw [dedup_take eq (j := n + 1) (by omega) hx hp, dedup_none eq (n + 1) (by omega) (fun j h1 h2 => hno j h1 (by omega)), hno (n + 1) (by omega) (by omega) _ _ hx hp]
    conv => rhs; rw [List.take_add_one, hx]
    simp
variable (d : α) (eq ne : α → α → Bool)
/-- Go's slices.Compact, as these texts read it -/
def compactF (k : Nat) (x0 : List α) : Option (List α) :=
  bif (decide (((List.length x0 : Nat) : Int) < (2 : Int))) then
    some x0
  else
    Option.bind (α := (List α) ⊕ ((Unit) × (Unit))) (iter (σ := (Int × Unit) × (Unit)) (τ := (List α) ⊕ ((Unit) × (Unit))) k (fun y1 =>
        bif (decide (y1.1.1 < ((List.length x0 : Nat) : Int))) then
          bif (inR y1.1.1 ((List.length x0 : Nat) : Int)) then
            bif (inR y1.1.1 ((List.length x0 : Nat) : Int)) then
              bif (inR (IntKind.i64.wrap (y1.1.1 - (1 : Int))) ((List.length x0 : Nat) : Int)) then
                bif (inR (IntKind.i64.wrap (y1.1.1 - (1 : Int))) ((List.length x0 : Nat) : Int)) then
                  bif (eq (rd d x0 y1.1.1) (rd d x0 (IntKind.i64.wrap (y1.1.1 - (1 : Int))))) then
                    bif (decide (0 ≤ y1.1.1) && (decide (y1.1.1 ≤ ((List.length x0 : Nat) : Int)) && decide (((List.length x0 : Nat) : Int) ≤ ((List.length x0 : Nat) : Int)))) then
                      Option.bind (α := (((Int × Unit) × (Unit)) ⊕ ((List α) ⊕ ((Unit) × (Unit)))) ⊕ ((Int × Unit) × ((List α) × Unit))) (iter (σ := (Int × Int × Unit) × ((List α) × Unit)) (τ := (((Int × Unit) × (Unit)) ⊕ ((List α) ⊕ ((Unit) × (Unit)))) ⊕ ((Int × Unit) × ((List α) × Unit))) k (fun y2 =>
                          bif (decide (y2.1.2.1 < (((List.length x0 : Nat) : Int) - y1.1.1))) then
                            bif (inR y2.1.2.1 (((List.length x0 : Nat) : Int) - y1.1.1)) then
                              bif (inR (y1.1.1 + y2.1.2.1) ((List.length y2.2.1 : Nat) : Int)) then
                                bif (inR (IntKind.i64.wrap (y2.1.2.1 - (1 : Int))) (((List.length x0 : Nat) : Int) - y1.1.1)) then
                                  bif (inR (y1.1.1 + (IntKind.i64.wrap (y2.1.2.1 - (1 : Int)))) ((List.length y2.2.1 : Nat) : Int)) then
                                    bif (ne (rd d y2.2.1 (y1.1.1 + y2.1.2.1)) (rd d y2.2.1 (y1.1.1 + (IntKind.i64.wrap (y2.1.2.1 - (1 : Int)))))) then
                                      bif (inR y2.1.2.1 (((List.length x0 : Nat) : Int) - y1.1.1)) then
                                        bif (inR (y1.1.1 + y2.1.2.1) ((List.length y2.2.1 : Nat) : Int)) then
                                          bif (inR y2.1.1 ((List.length y2.2.1 : Nat) : Int)) then
                                            bif (inR y2.1.1 ((List.length y2.2.1 : Nat) : Int)) then
                                              some (.inl (((IntKind.i64.wrap (y2.1.1 + (1 : Int))), (IntKind.i64.wrap (y2.1.2.1 + (1 : Int))), ()), ((List.set y2.2.1 (Int.toNat y2.1.1) (rd d y2.2.1 (y1.1.1 + y2.1.2.1))), ())))
                                            else
                                              none
                                          else
                                            none
                                        else
                                          none
                                      else
                                        none
                                    else
                                      some (.inl ((y2.1.1, (IntKind.i64.wrap (y2.1.2.1 + (1 : Int))), ()), (y2.2.1, ())))
                                  else
                                    none
                                else
                                  none
                              else
                                none
                            else
                              none
                          else
                            some (.inr (.inr ((y2.1.1, ()), (y2.2.1, ()))))) ((y1.1.1, (1 : Int), ()), (x0, ()))) fun r => match r with
                      | .inl z => some z
                      | .inr z3 =>
                        bif (decide (0 ≤ z3.1.1) && (decide (z3.1.1 ≤ ((List.length z3.2.1 : Nat) : Int)) && decide (((List.length z3.2.1 : Nat) : Int) ≤ ((List.length z3.2.1 : Nat) : Int)))) then
                          bif (decide (0 ≤ (0 : Int)) && (decide ((0 : Int) ≤ z3.1.1) && decide (z3.1.1 ≤ ((List.length (List.take (Int.toNat z3.1.1) z3.2.1 ++ (List.replicate (Int.toNat (((List.length z3.2.1 : Nat) : Int) - z3.1.1)) d ++ List.drop (Int.toNat ((List.length z3.2.1 : Nat) : Int)) z3.2.1)) : Nat) : Int)))) then
                            some (.inr (.inl (List.drop (Int.toNat (0 : Int)) (List.take (Int.toNat z3.1.1) (List.take (Int.toNat z3.1.1) z3.2.1 ++ (List.replicate (Int.toNat (((List.length z3.2.1 : Nat) : Int) - z3.1.1)) d ++ List.drop (Int.toNat ((List.length z3.2.1 : Nat) : Int)) z3.2.1))))))
                          else
                            none
                        else
                          none
                    else
                      none
                  else
                    some (.inl (((IntKind.i64.wrap (y1.1.1 + (1 : Int))), ()), ()))
                else
                  none
              else
                none
            else
              none
          else
            none
        else
          some (.inr (.inr ((), ())))) (((1 : Int), ()), ())) fun r => match r with
    | .inl z => some z
    | .inr z4 =>
      some x0
variable {d eq ne}
/-- what the second loop is at, at place m -/
structure CInv (eq : α → α → Bool) (xs : List α) (m : Nat) (i : Nat) (row : List α) : Prop where
  len : row.length = xs.length
  low : i < m
  head : row.take i = dedup eq (xs.take m)
  tail : row.drop (m - 1) = xs.drop (m - 1)
theorem CInv.step {eq : α → α → Bool} {xs row : List α} {m i : Nat} (h : CInv eq xs m i row) (hm : 1 ≤ m) {x p : α} (hx : xs[m]? = some x) (hp : xs[m - 1]? = some p) :
    (eq x p = true → CInv eq xs (m + 1) i row) ∧ (eq x p = false → CInv eq xs (m + 1) (i + 1) (row.set i x)) := by
  have hml := (List.getElem?_eq_some_iff.1 hx).1
  have hd := dedup_take eq hm hx hp
  have htail : row.drop m = xs.drop m := by
    have := congrArg (List.drop 1) h.tail
    rw [List.drop_drop, List.drop_drop, show m - 1 + 1 = m from by omega] at this
    exact this
  refine ⟨fun he => ?_, fun he => ?_⟩
  · rw [he] at hd
    simp only [cond_true, List.append_nil] at hd
    exact ⟨h.len, by have := h.low; omega, by rw [hd]; exact h.head, by rw [Nat.add_sub_cancel]; exact htail⟩
  · rw [he] at hd
    simp only [cond_false] at hd
    have hil : i < row.length := by rw [h.len]; have := h.low; omega
    refine ⟨by rw [List.length_set]; exact h.len, by have := h.low; omega, ?_, ?_⟩
    · rw [hd, ← h.head, List.take_set, List.take_add_one, List.getElem?_eq_getElem hil, Option.toList_some]
      rw [List.set_append_right _ _ (by rw [List.length_take]; omega)]
      rw [List.length_take, Nat.min_eq_left (by omega), Nat.sub_self]
      rfl
    · rw [Nat.add_sub_cancel, List.drop_set_of_lt h.low]
      exact htail
theorem CInv.at {eq : α → α → Bool} {xs row : List α} {m i : Nat} (h : CInv eq xs m i row) {q : Nat} (hq : m - 1 ≤ q) : row[q]? = xs[q]? := by
  have h1 := congrArg (fun l => l[q - (m - 1)]?) h.tail
  simp only [List.getElem?_drop] at h1
  rwa [show m - 1 + (q - (m - 1)) = q from by omega] at h1
theorem compactF_ok (hne : ∀ a b, ne a b = !eq a b) (xs : List α) (hl : xs.length ≤ 9223372036854775807) : compactF d eq ne (xs.length + 1) xs = some (dedup eq xs) := by
  unfold compactF
  by_cases h2 : xs.length < 2
  · have e : decide (((xs.length : Nat) : Int) < 2) = true := by simp; omega
    rw [e]
    match xs, h2 with
    | [], _ => rfl
    | [x], _ => rfl
    | _ :: _ :: _, h => simp at h; omega
  · have e : decide (((xs.length : Nat) : Int) < 2) = false := by simp; omega
    rw [e]
    simp only [cond_false]
    have hpre : ∀ m : Nat, 1 ≤ m → m < xs.length → IntKind.i64.wrap ((m : Int) - 1) = ((m - 1 : Nat) : Int) := fun m h1 h2 => by rw [wrap_ok (by omega) (by omega)]; omega
    have hat : ∀ (m : Nat) (h : m < xs.length), xs[m]? = some xs[m] := fun m h => List.getElem?_eq_getElem h
    rcases first_dup eq xs xs.length (by omega) (Nat.le_refl _) with hno | ⟨k0, hk1, hk2, ⟨x, p, hx, hp, he⟩, hbe⟩
    · rw [iter_path (s0 := (((1 : Int), ()), ())) (fun m => ((((m + 1 : Nat) : Int), ()), ())) (.inr ((), ())) (xs.length - 1) ?a1 ?a2 ?a3 ?a4]
      · have := dedup_none eq xs.length (Nat.le_refl _) hno
        rw [List.take_length] at this
        rw [this]; rfl
      case a1 => rfl
      case a2 => omega
      case a3 =>
        intro j hj
        have hx := hat (j + 1) (by omega)
        have hp := hat j (by omega)
        have e1 := hpre (j + 1) (by omega) (by omega)
        simp only [Nat.add_sub_cancel] at e1
        simp only [lt_at hx, inR_at hx, rd_at hx, e1, inR_at hp, rd_at hp, wrap_succ hx hl, cond_true, hno (j + 1) (by omega) (by omega) _ _ hx hp, cond_false]
      case a4 =>
        rw [show xs.length - 1 + 1 = xs.length from by omega]
        simp
    · -- the second loop
      have hc0 : CInv eq xs (k0 + 1) k0 xs := by
        refine ⟨rfl, by omega, ?_, rfl⟩
        rw [dedup_take eq hk1 hx hp, he, dedup_none eq k0 (by omega) hbe]
        simp
      have hloop : ∃ st : Nat → Nat × List α, st 0 = (k0, xs) ∧ (∀ j, k0 + 1 + j ≤ xs.length → CInv eq xs (k0 + 1 + j) (st j).1 (st j).2) ∧ ∀ j, k0 + 1 + j < xs.length → ∀ x p, xs[k0 + 1 + j]? = some x → xs[k0 + j]? = some p → st (j + 1) = bif eq x p then st j else ((st j).1 + 1, (st j).2.set (st j).1 x) := by
        let st : Nat → Nat × List α := fun n => Nat.rec (k0, xs) (fun j b => match xs[k0 + 1 + j]?, xs[k0 + j]? with | some x, some p => bif eq x p then b else (b.1 + 1, b.2.set b.1 x) | _, _ => b) n
        have hst : ∀ j, k0 + 1 + j < xs.length → ∀ x p, xs[k0 + 1 + j]? = some x → xs[k0 + j]? = some p → st (j + 1) = bif eq x p then st j else ((st j).1 + 1, (st j).2.set (st j).1 x) := fun j hj x p hx hp => by
          show (match xs[k0 + 1 + j]?, xs[k0 + j]? with | some x, some p => bif eq x p then st j else ((st j).1 + 1, (st j).2.set (st j).1 x) | _, _ => st j) = _
          rw [hx, hp]
        refine ⟨st, rfl, fun j => ?_, hst⟩
        induction j with
        | zero => intro _; exact hc0
        | succ j ih =>
          intro hj
          have hx := hat (k0 + 1 + j) (by omega)
          have hp := hat (k0 + j) (by omega)
          have h1 := (ih (by omega)).step (by omega) hx (by rw [show k0 + 1 + j - 1 = k0 + j from by omega]; exact hp)
          rw [hst j (by omega) _ _ hx hp]
          cases he : eq xs[k0 + 1 + j] xs[k0 + j]
          · exact h1.2 he
          · exact h1.1 he
      obtain ⟨st, hst0, hinv, hst⟩ := hloop
      have hI := hinv (xs.length - (k0 + 1)) (by omega)
      rw [show k0 + 1 + (xs.length - (k0 + 1)) = xs.length from by omega, ] at hI
      generalize hz : st (xs.length - (k0 + 1)) = z at hI
      obtain ⟨i, row⟩ := z
      simp only at hI
      have hres : List.take i row = dedup eq xs := by rw [hI.head, List.take_length]
      rw [iter_path (s0 := (((1 : Int), ()), ())) (fun m => ((((m + 1 : Nat) : Int), ()), ())) (.inl (dedup eq xs)) (k0 - 1) ?a1 ?a2 ?a3 ?a4]
      · rfl
      case a1 => rfl
      case a2 => omega
      case a3 =>
        intro j hj
        have hx := hat (j + 1) (by omega)
        have hp := hat j (by omega)
        have e1 := hpre (j + 1) (by omega) (by omega)
        simp only [Nat.add_sub_cancel] at e1
        simp only [lt_at hx, inR_at hx, rd_at hx, e1, inR_at hp, rd_at hp, wrap_succ hx hl, cond_true, hbe (j + 1) (by omega) (by omega) _ _ hx hp, cond_false]
      case a4 =>
        rw [show k0 - 1 + 1 = k0 from by omega]
        have e3 : (decide ((0 : Int) ≤ (k0 : Int)) && (decide ((k0 : Int) ≤ ((xs.length : Nat) : Int)) && decide (((xs.length : Nat) : Int) ≤ ((xs.length : Nat) : Int)))) = true := by simp; omega
        simp only [lt_at hx, inR_at hx, rd_at hx, hpre k0 hk1 hk2, inR_at hp, rd_at hp, cond_true, he, e3]
        rw [iter_path (s0 := (((k0 : Int), (1 : Int), ()), (xs, ()))) (fun j => ((((st j).1 : Int), ((j + 1 : Nat) : Int), ()), ((st j).2, ()))) (.inr (((i : Int), ()), (row, ()))) (xs.length - (k0 + 1)) ?b1 ?b2 ?b3 ?b4]
        case b1 => simp [hst0]
        case b2 => omega
        case b3 =>
          intro j hj
          have hc := hinv j (by omega)
          have hx := hat (k0 + 1 + j) (by omega)
          have hp := hat (k0 + j) (by omega)
          have hs := hst j (by omega) _ _ hx hp
          have hrx : (st j).2[k0 + 1 + j]? = some xs[k0 + 1 + j] := by rw [hc.at (by omega)]; exact hx
          have hrp : (st j).2[k0 + j]? = some xs[k0 + j] := by rw [hc.at (by omega)]; exact hp
          have c1 : decide ((((j + 1 : Nat) : Int)) < ((xs.length : Nat) : Int) - (k0 : Int)) = true := by simp; omega
          have c2 : inR (((j + 1 : Nat) : Int)) (((xs.length : Nat) : Int) - (k0 : Int)) = true := by simp [inR]; omega
          have c3 : (k0 : Int) + ((j + 1 : Nat) : Int) = ((k0 + 1 + j : Nat) : Int) := by omega
          have c4 : IntKind.i64.wrap (((j + 1 : Nat) : Int) - 1) = ((j : Nat) : Int) := by rw [wrap_ok (by omega) (by omega)]; omega
          have c5 : inR ((j : Nat) : Int) (((xs.length : Nat) : Int) - (k0 : Int)) = true := by simp [inR]; omega
          have c6 : (k0 : Int) + ((j : Nat) : Int) = ((k0 + j : Nat) : Int) := by omega
          have c7 : IntKind.i64.wrap (((j + 1 : Nat) : Int) + 1) = ((j + 1 + 1 : Nat) : Int) := by rw [wrap_ok (by omega) (by omega)]; omega
          have hlow := hc.low
          have hlen := hc.len
          simp only [c1, c2, c3, c4, c5, c6, c7, inR_at hrx, inR_at hrp, rd_at hrx, rd_at hrp, cond_true, hne]
          rw [hs]
          cases hq : eq xs[k0 + 1 + j] xs[k0 + j]
          · have c8 : inR (((st j).1 : Nat) : Int) (((st j).2.length : Nat) : Int) = true := by simp [inR]; omega
            have c9 : IntKind.i64.wrap ((((st j).1 : Nat) : Int) + 1) = (((st j).1 + 1 : Nat) : Int) := by rw [wrap_ok (by omega) (by omega)]; omega
            simp [c8, c9]
          · simp
        case b4 =>
          rw [hz]
          have c1 : decide ((((xs.length - (k0 + 1) + 1 : Nat) : Int)) < ((xs.length : Nat) : Int) - (k0 : Int)) = false := by simp; omega
          simp only [c1, cond_false]
        have hil : i ≤ row.length := by have := hI.low; rw [hI.len]; omega
        have e4 : (decide ((0 : Int) ≤ (i : Int)) && (decide ((i : Int) ≤ ((row.length : Nat) : Int)) && decide (((row.length : Nat) : Int) ≤ ((row.length : Nat) : Int)))) = true := by simp; omega
        simp only [Option.bind_some, e4, cond_true, Int.toNat_natCast]
        have e5 : (decide (0 ≤ (0 : Int)) && (decide ((0 : Int) ≤ (i : Int)) && decide ((i : Int) ≤ ((List.length (List.take i row ++ (List.replicate (Int.toNat (((row.length : Nat) : Int) - (i : Int))) d ++ List.drop row.length row)) : Nat) : Int)))) = true := by
          simp only [List.length_append, List.length_take, List.length_replicate]
          simp; omega
        rw [e5]
        simp only [cond_true, Int.toNat_zero, List.drop_zero]
        rw [List.take_append_of_le_length (by rw [List.length_take]; omega), List.take_take, Nat.min_self, hres]
/-! ### what slices.DeleteFunc does -/
end
end Go.Vm

/- Vm, part 35: the cells of plain data. Own work. -/
set_option linter.unusedVariables false
set_option linter.unusedSimpArgs false
namespace Go.Vm
open Go.RowKit
section
variable {P : Program} {w w' : World} {A A' : Nat → Prop}
end
end Go.Vm

/- Vm, part 39: functions that leave the objects as they were. Own work. -/
set_option linter.unusedVariables false
set_option linter.unusedSimpArgs false
set_option linter.unusedSectionVars false
namespace Go.Vm
variable [MonotC]
open Go.RowKit
/-! ### Objects that lie in one way alone -/
section
variable {w w' : World} {A A' : Nat → Prop} {l : List OB} {μ : Nat → Value}
end
section
variable {P : Program} {E : Env} {c : Cx} {S : St} {μ : Nat → Value} {a : Act} {w : World}
end
/-! ### A function that leaves the objects as they were -/
end Go.Vm
