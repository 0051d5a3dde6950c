/- Vm, part 33: functions that write a row, that use one up and make another, or that make one. Own work. -/
import Derived.Test.YtjkidhjkpkcnhaaGreatDoorVmD
import Derived.Sort.Grow
import Derived.Test.YtjkidhjkpkcnhaaGreatDoorVmA
import Derived.Test.YtjkidhjkpkcnhaaGreatDoorVmC
set_option linter.unusedVariables false
set_option linter.unusedSimpArgs false
set_option linter.unusedSectionVars false
namespace Go.Vm
variable [MonotC]
open Go.RowKit
/-- a row and data -/
def rowArg0 (T : Ty) (As : Tys) (args : List PV) (objs : List OB) : Option (List T.den × As.den) :=
  match args with
  | [] => none
  | v :: l => match v with
    | .row o => match objs with
      | [b] => match b with
        | .row U xs => cond (Nat.beq o 0) ((castL U T xs).bind fun ys => (implodes As l).bind fun a => some (ys, a)) none
        | _ => none
      | _ => none
    | _ => none
theorem rowArg0_some {T : Ty} {As : Tys} {args : List PV} {objs : List OB} {x : List T.den × As.den} (h : rowArg0 T As args objs = some x) : ∃ l, args = .row 0 :: l ∧ objs = [.row T x.1] ∧ implodes As l = some x.2 := by
  unfold rowArg0 at h
  split at h
  · cases h
  · split at h
    · split at h
      · split at h
        · obtain ⟨h0, h⟩ := cond_some h
          have e := Nat.eq_of_beq_eq_true h0
          subst e
          obtain ⟨ys, h1, h⟩ := Option.bind_eq_some_iff.1 h
          obtain ⟨a, h2, h⟩ := Option.bind_eq_some_iff.1 h
          obtain ⟨e, h1⟩ := castL_some h1
          subst e; subst h1
          cases h
          exact ⟨_, rfl, rfl, h2⟩
        · cases h
      · cases h
    · cases h
/-- a function that writes a row, and returns nothing -/
def FSem.wfn (T : Ty) (As : Tys) (f : List T.den → As.den → Option (List T.den)) : FSem where
  modes := [.rw T]
  quiet := false
  run := fun args objs K => match rowArg0 T As args objs with
    | some x => (f x.1 x.2).bind fun ys => K (.tup []) [.row T ys]
    | none => none
  param := fun args objs K => by
    cases rowArg0 T As args objs with
    | none => rfl
    | some x => simp only; cases f x.1 x.2 <;> rfl
/-- a function that uses up a row, and gives back another -/
def FSem.cfn (T : Ty) (As : Tys) (f : List T.den → As.den → Option (List T.den)) : FSem where
  modes := [.rw T]
  quiet := false
  run := fun args objs K => match rowArg0 T As args objs with
    | some x => (f x.1 x.2).bind fun ys => K (.row 1) [.dead, .row T ys]
    | none => none
  param := fun args objs K => by
    cases rowArg0 T As args objs with
    | none => rfl
    | some x => simp only; cases f x.1 x.2 <;> rfl
/-- a function from data to a row -/
def FSem.mfn (T : Ty) (As : Tys) (f : As.den → Option (List T.den)) : FSem where
  modes := modesOf As
  quiet := true
  run := fun args objs K => match objs with
    | [] => match implodes As args with
      | some x => (f x).bind fun ys => K (.row 0) [.row T ys]
      | none => none
    | _ :: _ => none
  param := fun args objs K => by
    cases objs with
    | nil =>
      simp only
      cases implodes As args with
      | none => rfl
      | some x => simp only; cases f x <;> rfl
    | cons b l => rfl
/-- what a function gives back, if it is a row -/
def rowRes (T : Ty) (v : PV) (l : List OB) : Option (List T.den) :=
  match v with
  | .row o => asRow? l T o
  | .sub o lo hi => (asRow? l T o).bind fun xs => some ((xs.take hi.toNat).drop lo.toNat)
  | .nil => some []
  | _ => none
section
variable {P : Program} {w w' : World} {A A' : Nat → Prop}
theorem RowAt.len {T : Ty} {xs : List T.den} {v : Value} (h : RowAt w A T xs v) : xs.length ≤ 9223372036854775807 := by
  rcases h.cases with ⟨rfl, _⟩ | ⟨_, b, off, c, _, cs, t, _, h2, h3, _⟩
  · simp
  · omega
/-- the row that a function has been handed -/
theorem row_arg {T : Ty} {xs : List T.den} {μ : Nat → Value} (hO : Objs w A (obs [.row T xs]) μ) {x : Value} (hv : VR w A (obs [.row T xs]) μ (.row 0) x) :
    RowAt w A T xs x ∧ HeadR (μ 0) x ∧ ((¬ ∃ a, x = .slice a 0 0) → μ 0 = x) := by
  have hob : obs [.row T xs] 0 = .row T xs := rfl
  have hm := hv.row hob
  exact ⟨((hO.each 0).rowAt hob).head hm, hm, fun h => hm.elim id (fun ⟨_, e⟩ => absurd e h)⟩
theorem one_own {b : OB} {μ : Nat → Value} {x : Nat} (h : own (obs [b]) μ x) : blkOf (μ 0) = some x := by
  obtain ⟨i, h1, h2⟩ := h
  cases i with
  | zero => exact h2
  | succ i => simp [obs, OB.alive] at h1
theorem two_own {b : OB} {μ : Nat → Value} {x : Nat} (h : own (obs [.dead, b]) μ x) : blkOf (μ 1) = some x := by
  obtain ⟨i, h1, h2⟩ := h
  match i with
  | 0 => simp [obs, OB.alive] at h1
  | 1 => exact h2
  | i + 2 => simp [obs, OB.alive] at h1
/-- what is right of a row that is written -/
theorem wfn_post {T : Ty} {xs ys : List T.den} {μ : Nat → Value} (hO : Objs w A (obs [.row T xs]) μ) {x : Value} (hv : VR w A (obs [.row T xs]) μ (.row 0) x) {M : Nat → Prop} (hk : Keep M w w') (hM : ∀ b, M b → (¬ ∃ a, x = .slice a 0 0) ∧ blkOf x = some b)
    (hr : RowAt w' A T ys x) : CallPost w w' A [.row T xs] μ [.row T ys] μ (.tup []) (.tuple #[]) := by
  obtain ⟨h1, h2, h3⟩ := row_arg hO hv
  have hob : obs [.row T ys] 0 = .row T ys := rfl
  have hown : ∀ b, own (obs [.row T ys]) μ b → own (obs [.row T xs]) μ b := fun b hb => ⟨0, rfl, one_own hb⟩
  have hsub : ∀ b, (A b ∨ own (obs [.row T ys]) μ b) → A b := fun b hb => hb.elim id (fun h => hO.mine b (hown b h))
  have hMo : ∀ b, M b → own (obs [.row T xs]) μ b := fun b hb => by
    obtain ⟨g1, g2⟩ := hM b hb
    exact ⟨0, rfl, by rw [h3 g1]; exact g2⟩
  refine ⟨Nat.le_refl _, hk.mono (fun b _ hb => hMo b hb), ⟨fun o => ?_, fun o o' b h1 h2 h3 h4 => ?_, fun b hb => .inr hb, fun b hb => Nat.lt_of_lt_of_le (hO.old b (hsub b hb)) hk.size, lay_keep hO.lay hk (fun b _ hb => hsub b hb) (fun b hb => hO.mine b (hMo b hb))⟩, ?_, fun b hb => .inl (hown b hb), fun i hi => ?_⟩
  · cases o with
    | zero =>
      rcases hr.cases with ⟨rfl, hz⟩ | ⟨hz, b, off, c, e, hreal⟩
      · rcases h2 with h2 | h2
        · have h4 := hO.each 0
          unfold OR at h4 ⊢
          simp only [obs, List.getD_cons_zero] at h4 ⊢
          obtain ⟨a, hz⟩ := hz
          rcases hr with ⟨_, _⟩ | ⟨b, off, c, cs, t, e, g⟩
          · rcases h4 with ⟨_, h4⟩ | ⟨b, off, c, cs, t, e, g1, g2, g3, g4, g5⟩
            · exact .inl ⟨rfl, h4⟩
            · have hb : b < w.heap.size := hO.old b (hO.mine b ⟨0, rfl, by rw [e]; rfl⟩)
              have hMb : ¬ M b := fun h => (hM b h).1 ⟨a, hz⟩
              rw [h2, hz] at e
              simp only [Value.slice.injEq] at e
              obtain ⟨e1, e2, rfl⟩ := e
              exact .inr ⟨b, off, 0, cs, t, by rw [h2, hz, e1]; rfl, by rw [hk.block b hb hMb]; exact g1, by simp, by omega, by omega, fun i x hi => by simp [nth] at hi⟩
          · exact .inr ⟨b, off, c, cs, t, by rw [h2]; exact e, g.1, g.2.1, g.2.2.1, g.2.2.2.1, fun i x hi => by simp [nth] at hi⟩
        · unfold OR
          simp only [obs, List.getD_cons_zero]
          exact .inl ⟨rfl, h2.1⟩
      · exact (hreal.mono hsub).or hob (by rw [h3 hz]; exact e)
    | succ o => unfold OR; simp [obs]
  · cases o with
    | zero =>
      cases o' with
      | zero => rfl
      | succ o' => simp [obs, OB.alive] at h2
    | succ o => simp [obs, OB.alive] at h1
  · refine .of_one ?_ rfl rfl
    simp only [CR, TRs]
    exact ⟨_, rfl, rfl⟩
  · have hi0 : i = 0 := by simpa using hi
    subst hi0
    unfold Later
    simp only [obs, List.getD_cons_zero]
    exact ⟨⟨xs, rfl⟩, trivial⟩
/-- A FUNCTION THAT WRITES A ROW, with a contract of its own. -/
theorem wfn_leaf {f : FuncId} {T : Ty} {As : Tys} {F : List T.den → As.den → Option (List T.den)} (hen : Enters P f)
    (h0 : ∀ a ys, WFs As a → F [] a = some ys → ys = [] ∧ ∀ (w : World) (A : Nat → Prop) (ob : Nat → OB) (μ : Nat → Value) (p : Option Addr) (vals : List Value), TRs w A ob μ (explodes As a) vals →
      Calls P f (.slice p 0 0 :: vals).toArray w fun e w' => e = .returned (.tuple #[]) ∧ Keep None w w')
    (h1 : ∀ xs a ys, xs.length ≤ 9223372036854775807 → WFs As a → F xs a = some ys → ∀ (w : World) (A : Nat → Prop) (ob : Nat → OB) (μ : Nat → Value) (b off c : Nat) (vals : List Value), RealRow w A T xs b off c → A b → TRs w A ob μ (explodes As a) vals →
      Calls P f (.slice (some ⟨b, off, none⟩) xs.length c :: vals).toArray w fun e w' => e = .returned (.tuple #[]) ∧ Keep (· = b) w w' ∧ ys.length = xs.length ∧ RealRow w' A T ys b off c) : SoundF P f (FSem.wfn T As F) := by
  intro ρ args objs K r h
  simp only [FSem.wfn] at h
  split at h
  · rename_i x hx
    obtain ⟨ys, hy, hK⟩ := Option.bind_eq_some_iff.1 h
    obtain ⟨l, rfl, rfl, h2⟩ := rowArg0_some hx
    refine ⟨hen, fun w A μ vals hO hargs => ?_⟩
    simp only [TRs] at hargs
    obtain ⟨xv, rest, rfl, hv, hrest⟩ := hargs
    have hwf := implodes_wf As l x.2 rest h2 hrest
    have htr := implodes_TRs As l x.2 rest h2 hrest
    obtain ⟨g1, g2, g3⟩ := row_arg hO hv
    rcases g1.cases with ⟨e, p, rfl⟩ | ⟨hz, b, off, c, e, hreal⟩
    · rw [e] at hy
      obtain ⟨rfl, hc⟩ := h0 x.2 ys hwf hy
      refine (hc w A _ μ p rest htr).mono ?_
      rintro e1 w' ⟨rfl, hk⟩
      exact ⟨_, _, _, μ, rfl, hK, wfn_post hO hv hk (fun b h => h.elim) (.inl ⟨rfl, p, rfl⟩)⟩
    · subst e
      have hA : A b := hO.mine b ⟨0, rfl, by rw [g3 hz]; rfl⟩
      refine (h1 x.1 x.2 ys g1.len hwf hy w A _ μ b off c rest hreal hA htr).mono ?_
      rintro e1 w' ⟨rfl, hk, hl, cs, t, hr⟩
      exact ⟨_, _, _, μ, rfl, hK, wfn_post hO hv hk (fun b h => ⟨hz, by rw [h]; rfl⟩) (.inr ⟨b, off, c, cs, t, by rw [hl], hr⟩)⟩
  · cases h
theorem asRow_some {l : List OB} {T : Ty} {o : Nat} {xs : List T.den} (h : asRow? l T o = some xs) : obs l o = .row T xs := by
  unfold asRow? at h
  split at h
  · rename_i U ys hob
    obtain ⟨e, h2⟩ := castL_some h
    subst e; subst h2
    exact hob
  · cases h
theorem rowRes_own {T : Ty} {ys : List T.den} {objs : List OB} {μ : Nat → Value} {res : PV} {v : Value} (hO : ∀ o, OR w A (obs objs) μ o) (hv : VR w A (obs objs) μ res v) (h : rowRes T res objs = some ys) :
    ∃ hd, HeadR hd v ∧ v.oneCell' = true ∧ (ys = [] ∧ hd = .slice none 0 0 ∨ ∃ b off c, hd = .slice (some ⟨b, off, none⟩) ys.length c ∧ RealRow w A T ys b off c) ∧ ∀ b, blkOf hd = some b → own (obs objs) μ b := by
  unfold rowRes at h
  split at h
  · rename_i o
    have hob := asRow_some h
    have hm := hv.row hob
    have hra := (hO o).rowAt hob
    have hblk : blkOf v = blkOf (μ o) ∨ ∃ a, v = .slice a 0 0 := hm.elim (fun e => .inl (by rw [e])) (fun e => .inr e.2)
    obtain ⟨hd, g1, g2, g3, g4⟩ := rowAt_own (hra.head hm) hblk
    exact ⟨hd, g1, g2, g3, fun b hb => ⟨o, by rw [hob]; rfl, g4 b hb⟩⟩
  · rename_i o lo hi
    obtain ⟨xs, h1, h2⟩ := Option.bind_eq_some_iff.1 h
    cases h2
    have hob := asRow_some h1
    obtain ⟨hra, _, hbk, _⟩ := ((hO o).rowAt hob).sub (hv.subv hob)
    obtain ⟨hd, g1, g2, g3, g4⟩ := rowAt_own hra hbk
    exact ⟨hd, g1, g2, g3, fun b hb => ⟨o, by rw [hob]; rfl, g4 b hb⟩⟩
  · cases h
    have e := hv.nil
    subst e
    exact ⟨_, .inl rfl, rfl, .inl ⟨rfl, rfl⟩, fun b hb => by cases hb⟩
  · cases h
theorem obs_last (n : Nat) (b : OB) (i : Nat) : obs (List.replicate n .dead ++ [b]) i = if i = n then b else .dead := by
  unfold obs
  simp only [List.getD, List.getElem?_append, List.length_replicate, List.getElem?_replicate]
  by_cases h : i < n
  · rw [if_pos h, if_pos h, if_neg (by omega)]; rfl
  · rw [if_neg h]
    by_cases e : i = n
    · subst e; simp
    · rw [if_neg e]
      have : i - n ≠ 0 := by omega
      cases hq : i - n with
      | zero => omega
      | succ m => simp
/-- what is right of a function that gives back a row and no other object -/
theorem row_post {T : Ty} {ys : List T.den} {objs objs' : List OB} {μ μ' : Nat → Value} {res : PV} {v : Value} (hp : CallPost w w' A objs μ objs' μ' res v) (h : rowRes T res objs' = some ys) :
    ∃ μ2, CallPost w w' A objs μ (List.replicate objs.length .dead ++ [.row T ys]) μ2 (.row objs.length) v := by
  obtain ⟨hd, g1, g2, g3, g4⟩ := rowRes_own hp.lie.each hp.res h
  refine ⟨fun i => if i = objs.length then hd else μ' i, ?_⟩
  have hown : ∀ b, own (obs (List.replicate objs.length .dead ++ [.row T ys])) (fun i => if i = objs.length then hd else μ' i) b → blkOf hd = some b := by
    rintro b ⟨i, k1, k2⟩
    rw [obs_last] at k1
    by_cases e : i = objs.length
    · simp only [e, if_true] at k2; exact k2
    · rw [if_neg e] at k1; cases k1
  have hown' : ∀ b, own (obs (List.replicate objs.length .dead ++ [.row T ys])) (fun i => if i = objs.length then hd else μ' i) b → own (obs objs') μ' b := fun b hb => g4 b (hown b hb)
  have hsub : ∀ b, (A b ∨ own (obs (List.replicate objs.length .dead ++ [.row T ys])) (fun i => if i = objs.length then hd else μ' i) b) → (A b ∨ own (obs objs') μ' b) := fun b hb => hb.imp id (hown' b)
  refine ⟨by simp, hp.keep, ⟨fun o => ?_, fun o o' b h1 h2 h3 h4 => ?_, fun b hb => .inr hb, fun b hb => hp.lie.old b (hsub b hb), fun p hp' => ⟨(hp.lie.lay p hp').1, fun a => (hp.lie.lay p hp').2 (hsub _ a)⟩⟩, ?_, fun b hb => hp.mine b (hown' b hb), fun i hi => ?_⟩
  · by_cases e : o = objs.length
    · subst e
      have hob : obs (List.replicate objs.length .dead ++ [.row T ys]) objs.length = .row T ys := by rw [obs_last, if_pos rfl]
      rcases g3 with ⟨rfl, rfl⟩ | ⟨b, off, c, e, hreal⟩
      · unfold OR
        rw [hob]
        exact .inl ⟨rfl, by simp⟩
      · exact (hreal.mono hsub).or hob (by simp [e])
    · unfold OR
      rw [obs_last, if_neg e]; trivial
  · rw [obs_last] at h1 h2
    by_cases e : o = objs.length
    · by_cases e' : o' = objs.length
      · rw [e, e']
      · rw [if_neg e'] at h2; cases h2
    · rw [if_neg e] at h1; cases h1
  · refine .of_one ?_ ?_ rfl
    · simp only [CR]
      exact ⟨v, rfl, g2, by rw [obs_last, if_pos rfl]; simpa using g1⟩
    · cases v <;> first | rfl | cases g2
  · unfold Later
    rw [obs_last, if_neg (by omega)]; trivial
variable {E : Nat → Env}
theorem mfn_of_calls {f : FuncId} {T : Ty} {As : Tys} {F : As.den → Option (List T.den)} (hen : Enters P f)
    (hg : ∀ (x : As.den) (ys : List T.den), WFs As x → F x = some ys → ∀ (w : World) (A : Nat → Prop) (μ : Nat → Value) (vals : List Value), Objs w A (obs []) μ → TRs w A (obs []) μ (explodes As x) vals →
      Calls P f vals.toArray w fun e w' => ∃ v res objs' μ', e = .returned v ∧ rowRes T res objs' = some ys ∧ CallPost w w' A [] μ objs' μ' res v) : SoundF P f (FSem.mfn T As F) := by
  intro ρ args objs K r hr
  cases objs with
  | cons b l => simp only [FSem.mfn, reduceCtorEq] at hr
  | nil =>
    simp only [FSem.mfn] at hr
    split at hr
    · rename_i x hx
      obtain ⟨ys, hy, hK⟩ := Option.bind_eq_some_iff.1 hr
      refine ⟨hen, fun w A μ vals hO hargs => ?_⟩
      refine (hg x ys (implodes_wf As args x vals hx hargs) hy w A μ vals hO (implodes_TRs As args x vals hx hargs)).mono ?_
      rintro e w' ⟨v, res, objs', μ', rfl, h1, h2⟩
      obtain ⟨μ2, h3⟩ := row_post h2 h1
      exact ⟨v, _, _, μ2, rfl, hK, h3⟩
    · cases hr
/-- A FUNCTION FROM DATA TO A ROW. -/
theorem mfn_sound (hE : ∀ k, EnvOK P (E k)) (hm : P.follows .mixedOrders = true) {H : Hints} {f : FuncId} {fn : Func} {code : Code} {nt : Nat} {rs : List ResultVar} (hf : P.funcs[f]? = some fn) (hname : (fn.name == "runtime.NumGoroutine") = false) (hb : fn.body = some code) (hnt : fn.ntmps = nt) (hrs : fn.results.toList = rs) {T : Ty} {As : Tys} {F : As.den → Option (List T.den)}
    (hg : ∀ (x : As.den) (ys : List T.den), WFs As x → F x = some ys → ∃ k, evFun (E k) H k code nt rs (explodes As x) [] (rowRes T) = some ys) : SoundF P f (FSem.mfn T As F) :=
  mfn_of_calls (enters_of hf hname hb) fun x ys hw hy w A μ vals hO hargs => by
    obtain ⟨k, hk⟩ := hg x ys hw hy
    rw [evFun_param] at hk
    split at hk
    · rename_i p hp
      have hs : SoundF P f (FSem.ev (E k) H k code nt rs) := fun_sound (hE k) hm (H := H) hf hname hb hnt hrs (fun args objs K r h => ⟨k, h⟩)
      obtain ⟨_, hcalls⟩ := hs _ [] (fun v l => some (v, l)) p hp
      refine (hcalls w A μ _ hO hargs).mono ?_
      rintro e w' ⟨v, res, objs', μ', rfl, hpe, hpost⟩
      simp only [Option.some.injEq] at hpe
      subst hpe
      exact ⟨v, _, _, μ', rfl, hk, hpost⟩
    · cases hk
/-- A FUNCTION THAT USES UP A ROW AND GIVES BACK ANOTHER. -/
theorem cfn_sound (hE : ∀ k, EnvOK P (E k)) (hm : P.follows .mixedOrders = true) {H : Hints} {f : FuncId} {fn : Func} {code : Code} {nt : Nat} {rs : List ResultVar} (hf : P.funcs[f]? = some fn) (hname : (fn.name == "runtime.NumGoroutine") = false) (hb : fn.body = some code) (hnt : fn.ntmps = nt) (hrs : fn.results.toList = rs) {T : Ty} {As : Tys} {F : List T.den → As.den → Option (List T.den)}
    (hg : ∀ (xs : List T.den) (a : As.den) (ys : List T.den), xs.length ≤ 9223372036854775807 → WFs As a → F xs a = some ys → ∃ k, evFun (E k) H k code nt rs (.row 0 :: explodes As a) [.row T xs] (rowRes T) = some ys) : SoundF P f (FSem.cfn T As F) := by
  intro ρ args objs K r h
  simp only [FSem.cfn] at h
  split at h
  · rename_i x hx
    obtain ⟨ys, hy, hK⟩ := Option.bind_eq_some_iff.1 h
    obtain ⟨l, rfl, rfl, h2⟩ := rowArg0_some hx
    refine ⟨enters_of hf hname hb, fun w A μ vals hO hargs => ?_⟩
    simp only [TRs] at hargs
    obtain ⟨xv, rest, rfl, hv, hrest⟩ := hargs
    have hwf := implodes_wf As l x.2 rest h2 hrest
    have htr := implodes_TRs As l x.2 rest h2 hrest
    obtain ⟨g1, g2, g3⟩ := row_arg hO hv
    obtain ⟨k, hk⟩ := hg x.1 x.2 ys g1.len hwf hy
    rw [evFun_param] at hk
    split at hk
    · rename_i p hp
      have hs : SoundF P f (FSem.ev (E k) H k code nt rs) := fun_sound (hE k) hm (H := H) hf hname hb hnt hrs (fun args objs K r h => ⟨k, h⟩)
      obtain ⟨_, hcalls⟩ := hs _ _ (fun v l => some (v, l)) p hp
      refine (hcalls w A μ (xv :: rest) hO (by simp only [TRs]; exact ⟨xv, rest, rfl, hv, htr⟩)).mono ?_
      rintro e w' ⟨v, res, objs', μ', rfl, hpe, hpost⟩
      simp only [Option.some.injEq] at hpe
      subst hpe
      obtain ⟨μ2, h3⟩ := row_post hpost hk
      exact ⟨v, _, _, μ2, rfl, hK, h3⟩
    · cases hk
  · cases h
/-- .. that writes a row -/
theorem wfn_sound (hE : ∀ k, EnvOK P (E k)) (hm : P.follows .mixedOrders = true) {H : Hints} {f : FuncId} {fn : Func} {code : Code} {nt : Nat} {rs : List ResultVar} (hf : P.funcs[f]? = some fn) (hname : (fn.name == "runtime.NumGoroutine") = false) (hb : fn.body = some code) (hnt : fn.ntmps = nt) (hrs : fn.results.toList = rs) {T : Ty} {As : Tys} {F : List T.den → As.den → Option (List T.den)}
    (hg : ∀ (xs : List T.den) (a : As.den) (ys : List T.den), xs.length ≤ 9223372036854775807 → WFs As a → F xs a = some ys → ∃ k, evFun (E k) H k code nt rs (.row 0 :: explodes As a) [.row T xs] (decR T) = some ys) : SoundF P f (FSem.wfn T As F) := by
  intro ρ args objs K r h
  simp only [FSem.wfn] at h
  split at h
  · rename_i x hx
    obtain ⟨ys, hy, hK⟩ := Option.bind_eq_some_iff.1 h
    obtain ⟨l, rfl, rfl, h2⟩ := rowArg0_some hx
    refine ⟨enters_of hf hname hb, fun w A μ vals hO hargs => ?_⟩
    simp only [TRs] at hargs
    obtain ⟨xv, rest, rfl, hv, hrest⟩ := hargs
    have hwf := implodes_wf As l x.2 rest h2 hrest
    have htr := implodes_TRs As l x.2 rest h2 hrest
    obtain ⟨g1, g2, g3⟩ := row_arg hO hv
    obtain ⟨k, hk⟩ := hg x.1 x.2 ys g1.len hwf hy
    rw [evFun_param] at hk
    split at hk
    · rename_i p hp
      have hs : SoundF P f (FSem.ev (E k) H k code nt rs) := fun_sound (hE k) hm (H := H) hf hname hb hnt hrs (fun args objs K r h => ⟨k, h⟩)
      obtain ⟨_, hcalls⟩ := hs _ _ (fun v l => some (v, l)) p hp
      refine (hcalls w A μ (xv :: rest) hO (by simp only [TRs]; exact ⟨xv, rest, rfl, hv, htr⟩)).mono ?_
      rintro e w' ⟨v, res, objs', μ', rfl, hpe, hpost⟩
      simp only [Option.some.injEq] at hpe
      subst hpe
      unfold decR at hk
      split at hk
      · split at hk
        · rename_i m' hm'
          simp only at hm'
          subst hm'
          have hob := asRow_some hk
          obtain ⟨us, hus, htr2⟩ := hpost.res.tup
          simp only [TRs] at htr2
          have hown : ∀ b, own (obs [.row T ys]) μ' b → own (obs objs') μ' b := fun b hb => ⟨0, by rw [hob]; rfl, one_own hb⟩
          have hsub : ∀ b, (A b ∨ own (obs [.row T ys]) μ' b) → (A b ∨ own (obs objs') μ' b) := fun b hb => hb.imp id (hown b)
          have hob1 : obs [.row T ys] 0 = .row T ys := rfl
          refine ⟨v, .tup [], [.row T ys], μ', rfl, hK, ⟨Nat.le_refl _, hpost.keep, ⟨fun o => ?_, fun o o' b h1 h2 h3 h4 => ?_, fun b hb => .inr hb, fun b hb => hpost.lie.old b (hsub b hb), fun p hp' => ⟨(hpost.lie.lay p hp').1, fun a => (hpost.lie.lay p hp').2 (hsub _ a)⟩⟩, ?_, fun b hb => hpost.mine b (hown b hb), fun i hi => ?_⟩⟩
          · cases o with
            | zero =>
              have h0 := hpost.lie.each 0
              unfold OR at h0 ⊢
              rw [hob] at h0
              rw [hob1]
              refine h0.imp id ?_
              rintro ⟨b, off, c, cs, t, g1, g2, g3, g4, g5, g6⟩
              refine ⟨b, off, c, cs, t, g1, g2, g3, g4, g5, fun i x hi => ?_⟩
              obtain ⟨cx, k1, k2⟩ := g6 i x hi
              exact ⟨cx, DR.keep (Keep.refl None w') (fun b _ hb => hsub b hb) (fun _ h => h.elim) _ _ _ k1, k2⟩
            | succ o => unfold OR; simp [obs]
          · cases o with
            | zero =>
              cases o' with
              | zero => rfl
              | succ o' => simp [obs, OB.alive] at h2
            | succ o => simp [obs, OB.alive] at h1
          · subst hus
            refine .of_one ?_ rfl rfl
            simp only [CR, TRs]
            exact ⟨us, rfl, htr2⟩
          · have hi0 : i = 0 := by simpa using hi
            subst hi0
            have h0 := hpost.later 0 (by simp)
            unfold Later at h0 ⊢
            rw [hob] at h0
            rw [hob1]
            exact h0
        · cases hk
      · cases hk
    · cases hk
  · cases h
/-- two halves of a function -/
theorem mfn_or {f : FuncId} {T : Ty} {As : Tys} {g g1 g2 : As.den → Option (List T.den)} (h1 : SoundF P f (FSem.mfn T As g1)) (h2 : SoundF P f (FSem.mfn T As g2)) (h : ∀ x y, g x = some y → g1 x = some y ∨ g2 x = some y) : SoundF P f (FSem.mfn T As g) := by
  intro ρ args objs K r hr
  cases objs with
  | cons b l => simp only [FSem.mfn, reduceCtorEq] at hr
  | nil =>
    simp only [FSem.mfn] at hr
    split at hr
    · rename_i x hx
      obtain ⟨y, hy, hK⟩ := Option.bind_eq_some_iff.1 hr
      rcases h x y hy with h | h
      · exact h1 args [] K r (by simp only [FSem.mfn, hx, h, Option.bind_some]; exact hK)
      · exact h2 args [] K r (by simp only [FSem.mfn, hx, h, Option.bind_some]; exact hK)
    · cases hr
/-- slices.Clone, as a row -/
theorem clone_row {f : FuncId} {T : Ty} {g1 : (Tys.cons (.slice T) .nil).den → Option (List T.den)} (h1 : SoundF P f (FSem.mfn T (.cons (.slice T) .nil) g1)) (hen : Enters P f)
    (hg1 : ∀ xs : List T.den, xs ≠ [] → xs.length ≤ 4294967296 → g1 (xs, ()) = some xs)
    (h0 : ∀ (a : Option Addr) (c : Nat) (w : World), Calls P f #[.slice a 0 c] w fun e w' => ∃ a', e = .returned (.slice a' 0 0) ∧ Keep None w w') :
    SoundF P f (FSem.mfn T (.cons (.slice T) .nil) fun x => if List.length x.1 ≤ 4294967296 then some x.1 else none) := by
  have h2 : SoundF P f (FSem.mfn T (.cons (.slice T) .nil) fun x => match (show List T.den from x.1) with | [] => some ([] : List T.den) | _ :: _ => none) := by
    refine mfn_of_calls hen (fun x y hwf hy w A μ vals hO hv => ?_)
    obtain ⟨xs, ⟨⟩⟩ := x
    cases xs with
    | nil =>
      cases hy
      simp only [explodes, explode, TRs] at hv
      obtain ⟨v, rest, rfl, hv, rfl⟩ := hv
      have hd := VR.sl (ob := obs []) (μ := μ) hv
      simp only [DR] at hd
      obtain ⟨a, c, e, _, _⟩ := hd
      simp only [List.cons.injEq, and_true] at e
      subst e
      refine (h0 a c w).mono ?_
      rintro e w' ⟨a', rfl, hk⟩
      have hob0 : obs [.row T []] 0 = .row T [] := rfl
      have hno : ∀ b, own (obs [.row T []]) (fun _ => .slice none 0 0) b → False := fun b hb => by have := one_own hb; cases this
      refine ⟨_, .row 0, [.row T []], fun _ => .slice none 0 0, rfl, ?_, ⟨by simp, hk.mono (fun _ _ h => h.elim), ⟨fun o => ?_, fun o o' b h1 h2 h3 h4 => (by cases h3), fun b hb => .inr hb, fun b hb => ?_, lay_keep (A' := fun b => A b ∨ own (obs [.row T []]) (fun _ => .slice none 0 0) b) hO.lay hk (fun b _ hb => hb.elim id (fun h => (hno b h).elim)) (fun _ h => h.elim)⟩, ?_, fun b hb => (hno b hb).elim, fun i hi => by simp at hi⟩⟩
      · simp [rowRes, asRow?, castL]
      · cases o with
        | zero => unfold OR; rw [hob0]; exact .inl ⟨rfl, rfl⟩
        | succ o => unfold OR; simp [obs]
      · rcases hb with hb | hb
        · exact Nat.lt_of_lt_of_le (hO.old b hb) hk.size
        · exact (hno b hb).elim
      · refine .of_one ?_ rfl rfl
        simp only [CR]
        exact ⟨_, rfl, rfl, by rw [hob0]; exact .inr ⟨rfl, _, rfl⟩⟩
    | cons x xs => cases hy
  have h3 : ∀ (x : (Tys.cons (.slice T) .nil).den) (y : List T.den), (if List.length x.1 ≤ 4294967296 then some x.1 else none) = some y → g1 x = some y ∨ (match (show List T.den from x.1) with | [] => some ([] : List T.den) | _ :: _ => none) = some y := by
    rintro ⟨xs, ⟨⟩⟩ y hy
    split at hy
    · rename_i hl
      cases hy
      cases xs with
      | nil => exact .inr rfl
      | cons z xs => exact .inl (hg1 _ (by simp) hl)
    · cases hy
  intro ρ args objs K r hr
  exact mfn_or h1 h2 h3 args objs K r hr
end
/-- functions in which a slice of a row is seen -/
def mkEnvV (ts : List (Nat × TD)) (fs : List (Nat × FSem)) : Env := { mkEnv ts fs with view := true }
theorem mkEnvV_ok {P : Program} {ts : List (Nat × TD)} {fs : List (Nat × FSem)} (h1 : chkTypes P ts = true) (h2 : ∀ p ∈ fs, SoundF P p.1 p.2) : EnvOK P (mkEnvV ts fs) := mkEnv_ok h1 h2
/-- slices that are written down are data -/
def mkEnvL (ts : List (Nat × TD)) (fs : List (Nat × FSem)) : Env := { mkEnv ts fs with lit := true }
theorem mkEnvL_ok {P : Program} {ts : List (Nat × TD)} {fs : List (Nat × FSem)} (h1 : chkTypes P ts = true) (h2 : ∀ p ∈ fs, SoundF P p.1 p.2) : EnvOK P (mkEnvL ts fs) := mkEnv_ok h1 h2
end Go.Vm

/- Vm, part 34: sorts of the library, by the contracts of the kit. Own work. -/
set_option linter.unusedVariables false
set_option linter.unusedSimpArgs false
set_option linter.unusedSectionVars false
namespace Go.Vm
variable [MonotC]
open Go.RowKit Go.Sort
section
variable {P : Program} {w : World} {A : Nat → Prop}
theorem put_at {α : Type} [Inhabited α] {enc : α → Value} {b off : Nat} {d : Array α} {n : Nat} {os : Array Obj} {x : Nat} (hx : x < w.heap.size) : (grow (putRow enc (Sort.ahead w n) b off d) os).heap[x]? = if x = b then (w.heap[b]?).map (onCells (putCells enc off d)) else w.heap[x]? := by
  simp only [grow, putRow, mapBlock, Sort.ahead]
  rw [Array.getElem?_append_left (by simpa using hx), Array.getElem?_modify]
  by_cases e : b = x
  · subst e; simp
  · rw [if_neg e, if_neg (fun h => e h.symm)]
theorem keep_put {α : Type} [Inhabited α] {enc : α → Value} {b off : Nat} {d : Array α} {n : Nat} {os : Array Obj} : Keep (· = b) w (grow (putRow enc (Sort.ahead w n) b off d) os) := by
  refine ⟨rfl, rfl, rfl, by simp [grow, putRow, mapBlock, Sort.ahead], fun _ => by simp [grow, putRow, mapBlock, Sort.ahead], fun a ha _ => ?_, fun x hx hn => ?_, fun x cs t z hx => ?_⟩
  rotate_left 2
  · rw [put_at (heap_lt hx)]
    by_cases e : x = b
    · subst e
      rw [if_pos rfl, hx]
      exact ⟨_, _, rfl⟩
    · rw [if_neg e]; exact ⟨cs, z, hx⟩
  · unfold World.frozen?
    rw [put_at ha]
    by_cases e : a.block = b
    · rw [if_pos e, ← e]
      cases w.heap[a.block]? with
      | none => rfl
      | some o => cases o <;> rfl
    · rw [if_neg e]
  · rw [put_at hx, if_neg hn]
/-- a row of elements of one cell is written anew -/
theorem real_put {T : Ty} (hT : T.cells = 1) {xs : List T.den} {b off c : Nat} (h : RealRow w A T xs b off c) {α : Type} [Inhabited α] {enc : α → Value} {zs : List α} (hz : zs.length = xs.length) (f : α → T.den) (hdr : ∀ a ∈ zs, DR w A T (f a) [enc a]) (hA : A b) (n : Nat) (os : Array Obj) :
    RealRow (grow (putRow enc (Sort.ahead w n) b off zs.toArray) os) A T (zs.map f) b off c := by
  obtain ⟨cs, t, h1, h2, h3, h4, h5⟩ := h
  have hb : b < w.heap.size := by
    rcases Nat.lt_or_ge b w.heap.size with g | g
    · exact g
    · rw [Array.getElem?_eq_none g] at h1; cases h1
  refine ⟨putCells enc off zs.toArray cs, t, by rw [put_at hb, if_pos rfl, h1]; rfl, by rw [List.length_map, hz]; exact h2, h3, by simpa [putCells] using h4, fun i x hx => ?_⟩
  simp only [nth, List.getElem?_map, Option.map_eq_some_iff] at hx
  obtain ⟨a, ha, rfl⟩ := hx
  have hi := (List.getElem?_eq_some_iff.1 ha).1
  refine ⟨[enc a], DR.keep keep_put (fun _ _ h => h) (fun x e => by subst e; exact hA) _ _ _ (hdr a (List.mem_of_getElem? ha)), fun j v hj => ?_⟩
  cases j with
  | succ j => cases hj
  | zero =>
    simp only [List.getElem?_cons_zero, Option.some.injEq] at hj
    subst hj
    have hc : off + i * T.cells + 0 < cs.size := by
      rw [hT] at h4 ⊢; omega
    simp only [putCells, Array.getElem?_mapIdx, Array.getElem?_eq_getElem hc, Option.map_some]
    have e0 : off + i * T.cells + 0 = off + i := by rw [hT]; omega
    rw [if_pos (by rw [e0]; simp; omega), e0]
    have e1 : off + i - off = i := by omega
    rw [e1]
    have : zs.toArray[i]! = a := by
      rw [getElem!_pos zs.toArray i (by simpa using hi)]
      have := List.getElem?_eq_some_iff.1 ha
      obtain ⟨_, e⟩ := this
      simpa using e
    rw [this]
theorem real_holds {T : Ty} (hT : T.cells = 1) {xs : List T.den} {b off c : Nat} (h : RealRow w A T xs b off c) {α : Type} [Inhabited α] {enc : α → Value} {zs : List α} (hz : zs.length = xs.length)
    (hdr : ∀ (i : Nat) (x : T.den) (a : α) (cx : List Value), xs[i]? = some x → zs[i]? = some a → DR w A T x cx → cx = [enc a]) : Holds enc w b off zs.toArray := by
  obtain ⟨cs, t, h1, h2, h3, h4, h5⟩ := h
  intro j hj
  have hj' : j < zs.length := by simpa using hj
  have hx : xs[j]? = some xs[j] := List.getElem?_eq_getElem (by omega)
  obtain ⟨cx, g1, g2⟩ := h5 j _ hx
  have e := hdr j _ zs[j] cx hx (List.getElem?_eq_getElem hj') g1
  subst e
  have := g2 0 _ rfl
  refine ⟨?_, ?_⟩
  · simp only [World.cell?, h1]
    rw [hT] at this
    have e2 : zs.toArray[j]! = zs[j] := by rw [getElem!_pos zs.toArray j hj]; simp
    rw [e2]
    simpa using this
  · simp [World.frozen?, h1]
theorem real_blk {T : Ty} {xs : List T.den} {b off c : Nat} (h : RealRow w A T xs b off c) : b < w.heap.size := by
  obtain ⟨cs, t, h1, _⟩ := h
  rcases Nat.lt_or_ge b w.heap.size with g | g
  · exact g
  · rw [Array.getElem?_eq_none g] at h1; cases h1
/-- the sort of numbers -/
def sortInt (l : List Int) : List Int := l.mergeSort fun x y => decide (x ≤ y)
def sortInt? (l : List Int) : Option (List Int) := if l.length < 4611686018427387904 then some (sortInt l) else none
theorem sort_int {f : FuncId} (hen : Enters P f) (h0 : ∀ (p : Option Addr) (cap : Nat) (w : World), Calls P f #[.slice p 0 cap] w fun e w' => e = .returned (.tuple #[]) ∧ w' = w)
    (h1 : ∀ (blk off cap : Nat) (zs : List Int) (w : World), Holds (Value.int .i64) w blk off zs.toArray → blk < w.heap.size → zs.length < 4611686018427387904 → Calls P f #[.slice (some ⟨blk, off, none⟩) zs.length cap] w fun e w' =>
      e = .returned (.tuple #[]) ∧ ∃ n os, w' = grow (putRow (Value.int .i64) (Sort.ahead w n) blk off (zs.mergeSort fun x y => decide (x ≤ y)).toArray) os) : SoundF P f (FSem.wfn (.int .i64) .nil fun xs _ => sortInt? xs) := by
  refine wfn_leaf hen (fun a ys _ hy => ?_) (fun xs a ys _ _ hy => ?_)
  · have hy : sortInt? [] = some ys := hy
    simp only [sortInt?, List.length_nil, show (0 : Nat) < 4611686018427387904 by omega, if_true, sortInt, List.mergeSort_nil, Option.some.injEq] at hy
    cases hy
    refine ⟨rfl, fun w A ob μ p vals hv => ?_⟩
    simp only [explodes, TRs] at hv
    subst hv
    exact (h0 p 0 w).mono fun e w' ⟨h1, h2⟩ => ⟨h1, by rw [h2]; exact Keep.refl _ _⟩
  · have hy : sortInt? xs = some ys := hy
    unfold sortInt? at hy
    split at hy
    · rename_i hl
      cases hy
      intro w A ob μ b off c vals hr hA hv
      simp only [explodes, TRs] at hv
      subst hv
      have hz : (sortInt xs).length = xs.length := List.length_mergeSort xs
      refine (h1 b off c xs w (real_holds (T := .int .i64) rfl hr rfl fun i x a cx e1 e2 e3 => ?_) (real_blk hr) hl).mono ?_
      · have e : x = a := Option.some.inj (e1.symm.trans e2)
        simp only [DR] at e3
        rw [e3, e]
      · rintro e w' ⟨rfl, n, os, rfl⟩
        have := real_put (T := .int .i64) (w := w) (A := A) (enc := Value.int .i64) rfl hr (zs := sortInt xs) hz (fun x => x) (fun a _ => by simp only [DR]) hA n os
        refine ⟨rfl, keep_put, hz, ?_⟩
        have e : List.map (fun x => x) (sortInt xs) = sortInt xs := List.map_id' _
        exact e ▸ this
    · cases hy
end
end Go.Vm

/- Vm, part 35: slices.Compact, for whatever elements. Own work. -/
set_option linter.unusedVariables false
set_option linter.unusedSimpArgs false
namespace Go.Vm
section
variable {σ τ : Type}
/-- A LOOP ALONG A PATH. -/
theorem iter_path {f : σ → Option (σ ⊕ τ)} {s0 : σ} {k : Nat} (st : Nat → σ) (t : τ) (n : Nat) (hs : s0 = st 0) (hk : n < k) (h1 : ∀ j, j < n → f (st j) = some (.inl (st (j + 1)))) (h2 : f (st n) = some (.inr t)) : iter k f s0 = some t := by
  have go : ∀ (k m : Nat), m ≤ n → n - m < k → iter k f (st m) = some t := by
    intro k
    induction k with
    | zero => intro m _ h; omega
    | succ k ih =>
      intro m hm h
      rcases Nat.lt_or_ge m n with hlt | hge
      · simp only [iter, h1 m hlt, Option.bind_some]
        exact ih (m + 1) (by omega) (by omega)
      · have : m = n := by omega
        subst this
        simp only [iter, h2, Option.bind_some]
  subst hs
  exact go k 0 (by omega) (by omega)
end
section
variable {α : Type}
/-- the first of each run of equal elements -/
def dedupFrom (eq : α → α → Bool) (p : α) : List α → List α
  | [] => []
  | x :: l => bif eq x p then dedupFrom eq x l else x :: dedupFrom eq x l
def dedup (eq : α → α → Bool) : List α → List α
  | [] => []
  | x :: l => x :: dedupFrom eq x l
theorem dedupFrom_snoc (eq : α → α → Bool) (x : α) : ∀ (l : List α) (p : α), dedupFrom eq p (l ++ [x]) = dedupFrom eq p l ++ (bif eq x ((p :: l).getLast (by simp)) then [] else [x])
  | [], p => by simp [dedupFrom]
  | y :: l, p => by
    simp only [List.cons_append, dedupFrom, dedupFrom_snoc eq x l y, List.getLast_cons_cons]
    cases eq y p <;> simp
theorem dedup_take (eq : α → α → Bool) {xs : List α} {j : Nat} {x p : α} (hj : 1 ≤ j) (hx : xs[j]? = some x) (hp : xs[j - 1]? = some p) : dedup eq (xs.take (j + 1)) = dedup eq (xs.take j) ++ (bif eq x p then [] else [x]) := by
  have hjl := (List.getElem?_eq_some_iff.1 hx).1
  have e : xs.take (j + 1) = xs.take j ++ [x] := by
    rw [List.take_add_one, hx]; rfl
  rw [e]
  cases hxs : xs.take j with
  | nil =>
    rw [List.take_eq_nil_iff] at hxs
    rcases hxs with h | h
    · omega
    · rw [h] at hjl; simp at hjl
  | cons y l =>
    simp only [dedup, List.cons_append, dedupFrom_snoc]
    have hlast : (y :: l).getLast (by simp) = p := by
      have h1 : (xs.take j).getLast? = some p := by
        rw [List.getLast?_eq_getElem?, List.length_take, Nat.min_eq_left (by omega), List.getElem?_take, if_pos (by omega), hp]
      rw [hxs, List.getLast?_eq_some_getLast (by simp)] at h1
      exact Option.some.inj h1
    rw [hlast]
theorem dedup_len (eq : α → α → Bool) : ∀ (l : List α), (dedup eq l).length ≤ l.length
  | [] => by simp [dedup]
  | x :: l => by
    have : ∀ (l : List α) (p : α), (dedupFrom eq p l).length ≤ l.length := by
      intro l
      induction l with
      | nil => intro p; simp [dedupFrom]
      | cons y l ih => intro p; simp only [dedupFrom]; have := ih y; cases eq y p <;> simp <;> omega
    simp [dedup, this l x]
theorem first_dup (eq : α → α → Bool) (xs : List α) : ∀ n, 1 ≤ n → n ≤ xs.length → (∀ j, 1 ≤ j → j < n → ∀ x p, xs[j]? = some x → xs[j - 1]? = some p → eq x p = false) ∨
    ∃ k, 1 ≤ k ∧ k < n ∧ (∃ x p, xs[k]? = some x ∧ xs[k - 1]? = some p ∧ eq x p = true) ∧ ∀ j, 1 ≤ j → j < k → ∀ x p, xs[j]? = some x → xs[j - 1]? = some p → eq x p = false
  | 0, h, _ => by omega
  | 1, _, _ => .inl fun j h1 h2 => by omega
  | n + 2, _, hn => by
    rcases first_dup eq xs (n + 1) (by omega) (by omega) with h | ⟨k, h1, h2, h3⟩
    · have hx : xs[n + 1]? = some xs[n + 1] := List.getElem?_eq_getElem (by omega)
      have hp : xs[n]? = some xs[n] := List.getElem?_eq_getElem (by omega)
      by_cases he : eq xs[n + 1] xs[n] = true
      · exact .inr ⟨n + 1, by omega, by omega, ⟨_, _, hx, hp, he⟩, h⟩
      · refine .inl fun j h1 h2 x p hx' hp' => ?_
        by_cases e : j = n + 1
        · subst e
          rw [hx] at hx'; rw [show n + 1 - 1 = n from rfl, hp] at hp'
          cases hx'; cases hp'
          simpa using he
        · exact h j h1 (by omega) x p hx' hp'
    · exact .inr ⟨k, h1, by omega, h3⟩
theorem dedup_none (eq : α → α → Bool) {xs : List α} : ∀ n, n ≤ xs.length → (∀ j, 1 ≤ j → j < n → ∀ x p, xs[j]? = some x → xs[j - 1]? = some p → eq x p = false) → dedup eq (xs.take n) = xs.take n
  | 0, _, _ => by simp [dedup]
  | 1, h, _ => by
    cases xs with
    | nil => simp at h
    | cons x l => simp [dedup, dedupFrom]
  | n + 2, h, hno => by
    have hx : xs[n + 1]? = some xs[n + 1] := List.getElem?_eq_getElem (by omega)
    have hp : xs[n]? = some xs[n] := List.getElem?_eq_getElem (by omega)
    rw [dedup_take eq (j := n + 1) (by omega) hx hp, dedup_none eq (n + 1) (by omega) (fun j h1 h2 => hno j h1 (by omega)), hno (n + 1) (by omega) (by omega) _ _ hx hp]
    conv => rhs; rw [List.take_add_one, hx]
    simp
variable (d : α) (eq ne : α → α → Bool)
/-- Go's slices.Compact, as these texts read it -/
def compactF (k : Nat) (x0 : List α) : Option (List α) :=
  bif (decide (((List.length x0 : Nat) : Int) < (2 : Int))) then
    some x0
  else
    Option.bind (α := (List α) ⊕ ((Unit) × (Unit))) (iter (σ := (Int × Unit) × (Unit)) (τ := (List α) ⊕ ((Unit) × (Unit))) k (fun y1 =>
        bif (decide (y1.1.1 < ((List.length x0 : Nat) : Int))) then
          bif (inR y1.1.1 ((List.length x0 : Nat) : Int)) then
            bif (inR y1.1.1 ((List.length x0 : Nat) : Int)) then
              bif (inR (IntKind.i64.wrap (y1.1.1 - (1 : Int))) ((List.length x0 : Nat) : Int)) then
                bif (inR (IntKind.i64.wrap (y1.1.1 - (1 : Int))) ((List.length x0 : Nat) : Int)) then
                  bif (eq (rd d x0 y1.1.1) (rd d x0 (IntKind.i64.wrap (y1.1.1 - (1 : Int))))) then
                    bif (decide (0 ≤ y1.1.1) && (decide (y1.1.1 ≤ ((List.length x0 : Nat) : Int)) && decide (((List.length x0 : Nat) : Int) ≤ ((List.length x0 : Nat) : Int)))) then
                      Option.bind (α := (((Int × Unit) × (Unit)) ⊕ ((List α) ⊕ ((Unit) × (Unit)))) ⊕ ((Int × Unit) × ((List α) × Unit))) (iter (σ := (Int × Int × Unit) × ((List α) × Unit)) (τ := (((Int × Unit) × (Unit)) ⊕ ((List α) ⊕ ((Unit) × (Unit)))) ⊕ ((Int × Unit) × ((List α) × Unit))) k (fun y2 =>
                          bif (decide (y2.1.2.1 < (((List.length x0 : Nat) : Int) - y1.1.1))) then
                            bif (inR y2.1.2.1 (((List.length x0 : Nat) : Int) - y1.1.1)) then
                              bif (inR (y1.1.1 + y2.1.2.1) ((List.length y2.2.1 : Nat) : Int)) then
                                bif (inR (IntKind.i64.wrap (y2.1.2.1 - (1 : Int))) (((List.length x0 : Nat) : Int) - y1.1.1)) then
                                  bif (inR (y1.1.1 + (IntKind.i64.wrap (y2.1.2.1 - (1 : Int)))) ((List.length y2.2.1 : Nat) : Int)) then
                                    bif (ne (rd d y2.2.1 (y1.1.1 + y2.1.2.1)) (rd d y2.2.1 (y1.1.1 + (IntKind.i64.wrap (y2.1.2.1 - (1 : Int)))))) then
                                      bif (inR y2.1.2.1 (((List.length x0 : Nat) : Int) - y1.1.1)) then
                                        bif (inR (y1.1.1 + y2.1.2.1) ((List.length y2.2.1 : Nat) : Int)) then
                                          bif (inR y2.1.1 ((List.length y2.2.1 : Nat) : Int)) then
                                            bif (inR y2.1.1 ((List.length y2.2.1 : Nat) : Int)) then
                                              some (.inl (((IntKind.i64.wrap (y2.1.1 + (1 : Int))), (IntKind.i64.wrap (y2.1.2.1 + (1 : Int))), ()), ((List.set y2.2.1 (Int.toNat y2.1.1) (rd d y2.2.1 (y1.1.1 + y2.1.2.1))), ())))
                                            else
                                              none
                                          else
                                            none
                                        else
                                          none
                                      else
                                        none
                                    else
                                      some (.inl ((y2.1.1, (IntKind.i64.wrap (y2.1.2.1 + (1 : Int))), ()), (y2.2.1, ())))
                                  else
                                    none
                                else
                                  none
                              else
                                none
                            else
                              none
                          else
                            some (.inr (.inr ((y2.1.1, ()), (y2.2.1, ()))))) ((y1.1.1, (1 : Int), ()), (x0, ()))) fun r => match r with
                      | .inl z => some z
                      | .inr z3 =>
                        bif (decide (0 ≤ z3.1.1) && (decide (z3.1.1 ≤ ((List.length z3.2.1 : Nat) : Int)) && decide (((List.length z3.2.1 : Nat) : Int) ≤ ((List.length z3.2.1 : Nat) : Int)))) then
                          bif (decide (0 ≤ (0 : Int)) && (decide ((0 : Int) ≤ z3.1.1) && decide (z3.1.1 ≤ ((List.length (List.take (Int.toNat z3.1.1) z3.2.1 ++ (List.replicate (Int.toNat (((List.length z3.2.1 : Nat) : Int) - z3.1.1)) d ++ List.drop (Int.toNat ((List.length z3.2.1 : Nat) : Int)) z3.2.1)) : Nat) : Int)))) then
                            some (.inr (.inl (List.drop (Int.toNat (0 : Int)) (List.take (Int.toNat z3.1.1) (List.take (Int.toNat z3.1.1) z3.2.1 ++ (List.replicate (Int.toNat (((List.length z3.2.1 : Nat) : Int) - z3.1.1)) d ++ List.drop (Int.toNat ((List.length z3.2.1 : Nat) : Int)) z3.2.1))))))
                          else
                            none
                        else
                          none
                    else
                      none
                  else
                    some (.inl (((IntKind.i64.wrap (y1.1.1 + (1 : Int))), ()), ()))
                else
                  none
              else
                none
            else
              none
          else
            none
        else
          some (.inr (.inr ((), ())))) (((1 : Int), ()), ())) fun r => match r with
    | .inl z => some z
    | .inr z4 =>
      some x0
variable {d eq ne}
/-- what the second loop is at, at place m -/
structure CInv (eq : α → α → Bool) (xs : List α) (m : Nat) (i : Nat) (row : List α) : Prop where
  len : row.length = xs.length
  low : i < m
  head : row.take i = dedup eq (xs.take m)
  tail : row.drop (m - 1) = xs.drop (m - 1)
theorem CInv.step {eq : α → α → Bool} {xs row : List α} {m i : Nat} (h : CInv eq xs m i row) (hm : 1 ≤ m) {x p : α} (hx : xs[m]? = some x) (hp : xs[m - 1]? = some p) :
    (eq x p = true → CInv eq xs (m + 1) i row) ∧ (eq x p = false → CInv eq xs (m + 1) (i + 1) (row.set i x)) := by
  have hml := (List.getElem?_eq_some_iff.1 hx).1
  have hd := dedup_take eq hm hx hp
  have htail : row.drop m = xs.drop m := by
    have := congrArg (List.drop 1) h.tail
    rw [List.drop_drop, List.drop_drop, show m - 1 + 1 = m from by omega] at this
    exact this
  refine ⟨fun he => ?_, fun he => ?_⟩
  · rw [he] at hd
    simp only [cond_true, List.append_nil] at hd
    exact ⟨h.len, by have := h.low; omega, by rw [hd]; exact h.head, by rw [Nat.add_sub_cancel]; exact htail⟩
  · rw [he] at hd
    simp only [cond_false] at hd
    have hil : i < row.length := by rw [h.len]; have := h.low; omega
    refine ⟨by rw [List.length_set]; exact h.len, by have := h.low; omega, ?_, ?_⟩
    · rw [hd, ← h.head, List.take_set, List.take_add_one, List.getElem?_eq_getElem hil, Option.toList_some]
      rw [List.set_append_right _ _ (by rw [List.length_take]; omega)]
      rw [List.length_take, Nat.min_eq_left (by omega), Nat.sub_self]
      rfl
    · rw [Nat.add_sub_cancel, List.drop_set_of_lt h.low]
      exact htail
theorem CInv.at {eq : α → α → Bool} {xs row : List α} {m i : Nat} (h : CInv eq xs m i row) {q : Nat} (hq : m - 1 ≤ q) : row[q]? = xs[q]? := by
  have h1 := congrArg (fun l => l[q - (m - 1)]?) h.tail
  simp only [List.getElem?_drop] at h1
  rwa [show m - 1 + (q - (m - 1)) = q from by omega] at h1
theorem compactF_ok (hne : ∀ a b, ne a b = !eq a b) (xs : List α) (hl : xs.length ≤ 9223372036854775807) : compactF d eq ne (xs.length + 1) xs = some (dedup eq xs) := by
  unfold compactF
  by_cases h2 : xs.length < 2
  · have e : decide (((xs.length : Nat) : Int) < 2) = true := by simp; omega
    rw [e]
    match xs, h2 with
    | [], _ => rfl
    | [x], _ => rfl
    | _ :: _ :: _, h => simp at h; omega
  · have e : decide (((xs.length : Nat) : Int) < 2) = false := by simp; omega
    rw [e]
    simp only [cond_false]
    have hpre : ∀ m : Nat, 1 ≤ m → m < xs.length → IntKind.i64.wrap ((m : Int) - 1) = ((m - 1 : Nat) : Int) := fun m h1 h2 => by rw [wrap_ok (by omega) (by omega)]; omega
    have hat : ∀ (m : Nat) (h : m < xs.length), xs[m]? = some xs[m] := fun m h => List.getElem?_eq_getElem h
    rcases first_dup eq xs xs.length (by omega) (Nat.le_refl _) with hno | ⟨k0, hk1, hk2, ⟨x, p, hx, hp, he⟩, hbe⟩
    · rw [iter_path (s0 := (((1 : Int), ()), ())) (fun m => ((((m + 1 : Nat) : Int), ()), ())) (.inr ((), ())) (xs.length - 1) ?a1 ?a2 ?a3 ?a4]
      · have := dedup_none eq xs.length (Nat.le_refl _) hno
        rw [List.take_length] at this
        rw [this]; rfl
      case a1 => rfl
      case a2 => omega
      case a3 =>
        intro j hj
        have hx := hat (j + 1) (by omega)
        have hp := hat j (by omega)
        have e1 := hpre (j + 1) (by omega) (by omega)
        simp only [Nat.add_sub_cancel] at e1
        simp only [lt_at hx, inR_at hx, rd_at hx, e1, inR_at hp, rd_at hp, wrap_succ hx hl, cond_true, hno (j + 1) (by omega) (by omega) _ _ hx hp, cond_false]
      case a4 =>
        rw [show xs.length - 1 + 1 = xs.length from by omega]
        simp
    · -- the second loop
      have hc0 : CInv eq xs (k0 + 1) k0 xs := by
        refine ⟨rfl, by omega, ?_, rfl⟩
        rw [dedup_take eq hk1 hx hp, he, dedup_none eq k0 (by omega) hbe]
        simp
      have hloop : ∃ st : Nat → Nat × List α, st 0 = (k0, xs) ∧ (∀ j, k0 + 1 + j ≤ xs.length → CInv eq xs (k0 + 1 + j) (st j).1 (st j).2) ∧ ∀ j, k0 + 1 + j < xs.length → ∀ x p, xs[k0 + 1 + j]? = some x → xs[k0 + j]? = some p → st (j + 1) = bif eq x p then st j else ((st j).1 + 1, (st j).2.set (st j).1 x) := by
        let st : Nat → Nat × List α := fun n => Nat.rec (k0, xs) (fun j b => match xs[k0 + 1 + j]?, xs[k0 + j]? with | some x, some p => bif eq x p then b else (b.1 + 1, b.2.set b.1 x) | _, _ => b) n
        have hst : ∀ j, k0 + 1 + j < xs.length → ∀ x p, xs[k0 + 1 + j]? = some x → xs[k0 + j]? = some p → st (j + 1) = bif eq x p then st j else ((st j).1 + 1, (st j).2.set (st j).1 x) := fun j hj x p hx hp => by
          show (match xs[k0 + 1 + j]?, xs[k0 + j]? with | some x, some p => bif eq x p then st j else ((st j).1 + 1, (st j).2.set (st j).1 x) | _, _ => st j) = _
          rw [hx, hp]
        refine ⟨st, rfl, fun j => ?_, hst⟩
        induction j with
        | zero => intro _; exact hc0
        | succ j ih =>
          intro hj
          have hx := hat (k0 + 1 + j) (by omega)
          have hp := hat (k0 + j) (by omega)
          have h1 := (ih (by omega)).step (by omega) hx (by rw [show k0 + 1 + j - 1 = k0 + j from by omega]; exact hp)
          rw [hst j (by omega) _ _ hx hp]
          cases he : eq xs[k0 + 1 + j] xs[k0 + j]
          · exact h1.2 he
          · exact h1.1 he
      obtain ⟨st, hst0, hinv, hst⟩ := hloop
      have hI := hinv (xs.length - (k0 + 1)) (by omega)
      rw [show k0 + 1 + (xs.length - (k0 + 1)) = xs.length from by omega, ] at hI
      generalize hz : st (xs.length - (k0 + 1)) = z at hI
      obtain ⟨i, row⟩ := z
      simp only at hI
      have hres : List.take i row = dedup eq xs := by rw [hI.head, List.take_length]
      rw [iter_path (s0 := (((1 : Int), ()), ())) (fun m => ((((m + 1 : Nat) : Int), ()), ())) (.inl (dedup eq xs)) (k0 - 1) ?a1 ?a2 ?a3 ?a4]
      · rfl
      case a1 => rfl
      case a2 => omega
      case a3 =>
        intro j hj
        have hx := hat (j + 1) (by omega)
        have hp := hat j (by omega)
        have e1 := hpre (j + 1) (by omega) (by omega)
        simp only [Nat.add_sub_cancel] at e1
        simp only [lt_at hx, inR_at hx, rd_at hx, e1, inR_at hp, rd_at hp, wrap_succ hx hl, cond_true, hbe (j + 1) (by omega) (by omega) _ _ hx hp, cond_false]
      case a4 =>
        rw [show k0 - 1 + 1 = k0 from by omega]
        have e3 : (decide ((0 : Int) ≤ (k0 : Int)) && (decide ((k0 : Int) ≤ ((xs.length : Nat) : Int)) && decide (((xs.length : Nat) : Int) ≤ ((xs.length : Nat) : Int)))) = true := by simp; omega
        simp only [lt_at hx, inR_at hx, rd_at hx, hpre k0 hk1 hk2, inR_at hp, rd_at hp, cond_true, he, e3]
        rw [iter_path (s0 := (((k0 : Int), (1 : Int), ()), (xs, ()))) (fun j => ((((st j).1 : Int), ((j + 1 : Nat) : Int), ()), ((st j).2, ()))) (.inr (((i : Int), ()), (row, ()))) (xs.length - (k0 + 1)) ?b1 ?b2 ?b3 ?b4]
        case b1 => simp [hst0]
        case b2 => omega
        case b3 =>
          intro j hj
          have hc := hinv j (by omega)
          have hx := hat (k0 + 1 + j) (by omega)
          have hp := hat (k0 + j) (by omega)
          have hs := hst j (by omega) _ _ hx hp
          have hrx : (st j).2[k0 + 1 + j]? = some xs[k0 + 1 + j] := by rw [hc.at (by omega)]; exact hx
          have hrp : (st j).2[k0 + j]? = some xs[k0 + j] := by rw [hc.at (by omega)]; exact hp
          have c1 : decide ((((j + 1 : Nat) : Int)) < ((xs.length : Nat) : Int) - (k0 : Int)) = true := by simp; omega
          have c2 : inR (((j + 1 : Nat) : Int)) (((xs.length : Nat) : Int) - (k0 : Int)) = true := by simp [inR]; omega
          have c3 : (k0 : Int) + ((j + 1 : Nat) : Int) = ((k0 + 1 + j : Nat) : Int) := by omega
          have c4 : IntKind.i64.wrap (((j + 1 : Nat) : Int) - 1) = ((j : Nat) : Int) := by rw [wrap_ok (by omega) (by omega)]; omega
          have c5 : inR ((j : Nat) : Int) (((xs.length : Nat) : Int) - (k0 : Int)) = true := by simp [inR]; omega
          have c6 : (k0 : Int) + ((j : Nat) : Int) = ((k0 + j : Nat) : Int) := by omega
          have c7 : IntKind.i64.wrap (((j + 1 : Nat) : Int) + 1) = ((j + 1 + 1 : Nat) : Int) := by rw [wrap_ok (by omega) (by omega)]; omega
          have hlow := hc.low
          have hlen := hc.len
          simp only [c1, c2, c3, c4, c5, c6, c7, inR_at hrx, inR_at hrp, rd_at hrx, rd_at hrp, cond_true, hne]
          rw [hs]
          cases hq : eq xs[k0 + 1 + j] xs[k0 + j]
          · have c8 : inR (((st j).1 : Nat) : Int) (((st j).2.length : Nat) : Int) = true := by simp [inR]; omega
            have c9 : IntKind.i64.wrap ((((st j).1 : Nat) : Int) + 1) = (((st j).1 + 1 : Nat) : Int) := by rw [wrap_ok (by omega) (by omega)]; omega
            simp [c8, c9]
          · simp
        case b4 =>
          rw [hz]
          have c1 : decide ((((xs.length - (k0 + 1) + 1 : Nat) : Int)) < ((xs.length : Nat) : Int) - (k0 : Int)) = false := by simp; omega
          simp only [c1, cond_false]
        have hil : i ≤ row.length := by have := hI.low; rw [hI.len]; omega
        have e4 : (decide ((0 : Int) ≤ (i : Int)) && (decide ((i : Int) ≤ ((row.length : Nat) : Int)) && decide (((row.length : Nat) : Int) ≤ ((row.length : Nat) : Int)))) = true := by simp; omega
        simp only [Option.bind_some, e4, cond_true, Int.toNat_natCast]
        have e5 : (decide (0 ≤ (0 : Int)) && (decide ((0 : Int) ≤ (i : Int)) && decide ((i : Int) ≤ ((List.length (List.take i row ++ (List.replicate (Int.toNat (((row.length : Nat) : Int) - (i : Int))) d ++ List.drop row.length row)) : Nat) : Int)))) = true := by
          simp only [List.length_append, List.length_take, List.length_replicate]
          simp; omega
        rw [e5]
        simp only [cond_true, Int.toNat_zero, List.drop_zero]
        rw [List.take_append_of_le_length (by rw [List.length_take]; omega), List.take_take, Nat.min_self, hres]
/-! ### what slices.DeleteFunc does -/
structure FInv (keep : α → Bool) (xs : List α) (m : Nat) (i : Nat) (row : List α) : Prop where
  len : row.length = xs.length
  low : i < m
  head : row.take i = (xs.take m).filter keep
  tail : row.drop m = xs.drop m
theorem FInv.step {keep : α → Bool} {xs row : List α} {m i : Nat} (h : FInv keep xs m i row) {x : α} (hx : xs[m]? = some x) :
    (keep x = false → FInv keep xs (m + 1) i row) ∧ (keep x = true → FInv keep xs (m + 1) (i + 1) (row.set i x)) := by
  have hml := (List.getElem?_eq_some_iff.1 hx).1
  have hlow := h.low
  have e : xs.take (m + 1) = xs.take m ++ [x] := by rw [List.take_add_one, hx]; rfl
  have htail : row.drop (m + 1) = xs.drop (m + 1) := by
    have := congrArg (List.drop 1) h.tail
    rwa [List.drop_drop, List.drop_drop] at this
  refine ⟨fun hk => ⟨h.len, by omega, by rw [e, List.filter_append, h.head]; simp [hk], htail⟩, fun hk => ?_⟩
  have hil : i < row.length := by rw [h.len]; omega
  refine ⟨by rw [List.length_set]; exact h.len, by omega, ?_, by rw [List.drop_set_of_lt (by omega)]; exact htail⟩
  rw [e, List.filter_append, ← h.head, List.take_set, List.take_add_one, List.getElem?_eq_getElem hil, Option.toList_some]
  rw [List.set_append_right _ _ (by rw [List.length_take]; omega)]
  rw [List.length_take, Nat.min_eq_left (by omega), Nat.sub_self]
  simp [hk]
theorem FInv.at {keep : α → Bool} {xs row : List α} {m i : Nat} (h : FInv keep xs m i row) {q : Nat} (hq : m ≤ q) : row[q]? = xs[q]? := by
  have h1 := congrArg (fun l => l[q - m]?) h.tail
  simp only [List.getElem?_drop] at h1
  rwa [show m + (q - m) = q from by omega] at h1
theorem filter_path {keep : α → Bool} {xs : List α} {i0 : Nat} {x0 : α} (h0 : xs[i0]? = some x0) (hk0 : keep x0 = false) (hb : ∀ m x, m < i0 → xs[m]? = some x → keep x = true) :
    ∃ st : Nat → Nat × List α, st 0 = (i0, xs) ∧ (∀ j, i0 + 1 + j ≤ xs.length → FInv keep xs (i0 + 1 + j) (st j).1 (st j).2) ∧
      ∀ j x, xs[i0 + 1 + j]? = some x → st (j + 1) = bif keep x then ((st j).1 + 1, (st j).2.set (st j).1 x) else st j := by
  have hlt := (List.getElem?_eq_some_iff.1 h0).1
  let st : Nat → Nat × List α := fun n => Nat.rec (i0, xs) (fun j b => match xs[i0 + 1 + j]? with | some x => bif keep x then (b.1 + 1, b.2.set b.1 x) else b | none => b) n
  have hst : ∀ j x, xs[i0 + 1 + j]? = some x → st (j + 1) = bif keep x then ((st j).1 + 1, (st j).2.set (st j).1 x) else st j := fun j x hx => by
    show (match xs[i0 + 1 + j]? with | some x => bif keep x then ((st j).1 + 1, (st j).2.set (st j).1 x) else st j | none => st j) = _
    rw [hx]
  refine ⟨st, rfl, fun j => ?_, hst⟩
  induction j with
  | zero =>
    intro _
    refine ⟨rfl, by show i0 < i0 + 1 + 0; omega, ?_, rfl⟩
    have e : xs.take (i0 + 1) = xs.take i0 ++ [x0] := by rw [List.take_add_one, h0]; rfl
    have hall : (xs.take i0).filter keep = xs.take i0 := List.filter_eq_self.2 fun x hx => by
      obtain ⟨m, hm, e2⟩ := List.mem_iff_getElem.1 hx
      rw [List.length_take] at hm
      exact hb m x (by omega) (by rw [← e2, List.getElem_take, List.getElem?_eq_getElem (by omega)])
    show xs.take i0 = (xs.take (i0 + 1)).filter keep
    rw [e, List.filter_append, hall]
    simp [hk0]
  | succ j ih =>
    intro hj
    have hx : xs[i0 + 1 + j]? = some (xs[i0 + 1 + j]'(by omega)) := List.getElem?_eq_getElem (by omega)
    have h1 := (ih (by omega)).step hx
    rw [hst j _ hx]
    cases hk : keep (xs[i0 + 1 + j]'(by omega))
    · exact h1.1 hk
    · exact h1.2 hk
end
end Go.Vm

/- Vm, part 35: the cells of plain data. Own work. -/
set_option linter.unusedVariables false
set_option linter.unusedSimpArgs false
namespace Go.Vm
open Go.RowKit
mutual
/-- the cells of a value that leads nowhere -/
def encT : (T : Ty) → T.den → List Value
  | .int k, x => [.int k x] | .bool, b => [.bool b] | .str, s => [.string s] | .slice _, _ => [] | .struct fs, x => encTs fs x
def encTs : (T : Tys) → T.den → List Value
  | .nil, _ => [] | .cons t ts, x => encT t x.1 ++ encTs ts x.2
end
section
variable {P : Program} {w w' : World} {A A' : Nat → Prop}
theorem go_cons {t : Ty} {ts : Tys} (h : Ty.deep.go (.cons t ts) = false) : t.deep = false ∧ Ty.deep.go ts = false := by
  cases t with
  | slice t => simp [Ty.deep.go] at h
  | struct fs => simp only [Ty.deep.go, Bool.or_eq_false_iff] at h; exact ⟨by simpa [Ty.deep] using h.1, h.2⟩
  | int k => exact ⟨rfl, by simpa [Ty.deep.go] using h⟩
  | bool => exact ⟨rfl, by simpa [Ty.deep.go] using h⟩
  | str => exact ⟨rfl, by simpa [Ty.deep.go] using h⟩
mutual
theorem DR_enc : ∀ (T : Ty) (x : T.den), T.deep = false → WF T x → DR w A T x (encT T x)
  | .int k, x, _, _ => by simp only [DR, encT]
  | .bool, x, _, _ => by simp only [DR, encT]
  | .str, x, _, h => by simp only [WF] at h; simp only [DR, encT]; exact ⟨trivial, h⟩
  | .slice t, x, h, _ => by simp [Ty.deep] at h
  | .struct fs, x, h, hw => by simp only [WF] at hw; simp only [DR, encT]; exact DRs_enc fs x (by simpa [Ty.deep] using h) hw
theorem DRs_enc : ∀ (T : Tys) (x : T.den), Ty.deep.go T = false → WFs T x → DRs w A T x (encTs T x)
  | .nil, x, _, _ => by simp only [DRs, encTs]
  | .cons t ts, x, h, hw => by
    obtain ⟨h1, h2⟩ := go_cons h
    simp only [WFs] at hw
    simp only [DRs, encTs]
    exact ⟨_, _, rfl, DR_enc t x.1 h1 hw.1, DRs_enc ts x.2 h2 hw.2⟩
end
mutual
theorem enc_DR : ∀ (T : Ty) (x : T.den) (cs : List Value), T.deep = false → DR w A T x cs → cs = encT T x
  | .int k, x, cs, _, h => by simpa only [DR, encT] using h
  | .bool, x, cs, _, h => by simpa only [DR, encT] using h
  | .str, x, cs, _, h => by simp only [DR] at h; simpa only [encT] using h.1
  | .slice t, x, cs, h, _ => by simp [Ty.deep] at h
  | .struct fs, x, cs, h, hd => by simp only [DR] at hd; simp only [encT]; exact encs_DR fs x cs (by simpa [Ty.deep] using h) hd
theorem encs_DR : ∀ (T : Tys) (x : T.den) (cs : List Value), Ty.deep.go T = false → DRs w A T x cs → cs = encTs T x
  | .nil, x, cs, _, h => by simpa only [DRs, encTs] using h
  | .cons t ts, x, cs, h, hd => by
    obtain ⟨h1, h2⟩ := go_cons h
    simp only [DRs] at hd
    obtain ⟨c1, c2, e, h3, h4⟩ := hd
    simp only [encTs]
    rw [e, enc_DR t x.1 c1 h1 h3, encs_DR ts x.2 c2 h2 h4]
end
end
end Go.Vm

/- Vm, part 39: functions that leave the objects as they were. Own work. -/
set_option linter.unusedVariables false
set_option linter.unusedSimpArgs false
set_option linter.unusedSectionVars false
namespace Go.Vm
variable [MonotC]
open Go.RowKit
/-! ### Objects that lie in one way alone -/
mutual
/-- a value that lies in one way alone -/
def flatP (l : List OB) : PV → Bool
  | .int _ _ => true | .bool _ => true | .str _ => true | .nil => true | .nilc _ => true | .undef => true
  | .ptr o _ => match obs l o with
    | .box _ _ => true
    | _ => false
  | .mp o => match obs l o with
    | .map _ _ _ => true
    | _ => false
  | .agg vs => flatPs l vs
  | _ => false
def flatPs (l : List OB) : List PV → Bool
  | [] => true
  | v :: vs => flatP l v && flatPs l vs
end
def flatO (l : List OB) : OB → Bool
  | .dead => true
  | .box _ v => flatP l v
  | .map K V _ => !K.deep && !V.deep
  | _ => false
def flatAll (l : List OB) : List OB → Bool
  | [] => true
  | b :: bs => flatO l b && flatAll l bs
section
variable {w w' : World} {A A' : Nat → Prop} {l : List OB} {μ : Nat → Value}
mutual
theorem flatP_eq : ∀ (v : PV) (cs cs' : List Value), flatP l v = true → CR w A (obs l) μ v cs → CR w' A' (obs l) μ v cs' → cs = cs'
  | .int k x, cs, cs', _, h, h' => by simp only [CR] at h h'; rw [h, h']
  | .bool b, cs, cs', _, h, h' => by simp only [CR] at h h'; rw [h, h']
  | .str s, cs, cs', _, h, h' => by simp only [CR] at h h'; rw [h.1, h'.1]
  | .nil, cs, cs', _, h, h' => by simp only [CR] at h h'; rw [h, h']
  | .nilc k, cs, cs', _, h, h' => by simp only [CR] at h h'; rw [h, h']
  | .undef, cs, cs', _, h, h' => by simp only [CR] at h h'; rw [h, h']
  | .ptr o p, cs, cs', hf, h, h' => by
    simp only [CR] at h h'
    obtain ⟨v, e, _, h⟩ := h
    obtain ⟨v', e', _, h'⟩ := h'
    unfold flatP at hf
    split at hf
    · rename_i d u hob
      rw [hob] at h h'
      obtain ⟨b, off, d', h1, h2, h3⟩ := h
      obtain ⟨b', off', d'', k1, k2, k3⟩ := h'
      rw [h1] at k1
      rw [h2] at k2
      cases k1
      cases k2
      rw [e, e', h3, k3]
    · cases hf
  | .mp o, cs, cs', hf, h, h' => by
    simp only [CR] at h h'
    obtain ⟨v, e, _, h⟩ := h
    obtain ⟨v', e', _, h'⟩ := h'
    unfold flatP at hf
    split at hf
    · rename_i K V c hob
      rw [hob] at h h'
      rw [e, e', ← h, ← h']
    · cases hf
  | .agg vs, cs, cs', hf, h, h' => by simp only [CR] at h h'; exact flatPs_eq vs cs cs' (by simpa only [flatP] using hf) h h'
theorem flatPs_eq : ∀ (vs : List PV) (cs cs' : List Value), flatPs l vs = true → CRs w A (obs l) μ vs cs → CRs w' A' (obs l) μ vs cs' → cs = cs'
  | [], cs, cs', _, h, h' => by simp only [CRs] at h h'; rw [h, h']
  | v :: vs, cs, cs', hf, h, h' => by
    simp only [flatPs, Bool.and_eq_true] at hf
    simp only [CRs] at h h'
    obtain ⟨c1, c2, e, h1, h2⟩ := h
    obtain ⟨d1, d2, e', k1, k2⟩ := h'
    rw [e, e', flatP_eq v c1 d1 hf.1 h1 k1, flatPs_eq vs c2 d2 hf.2 h2 k2]
end
theorem ents_eq {K V : Ty} (hK : K.deep = false) (hV : V.deep = false) : ∀ (es : List (K.den × V.den × Nat)) (m m' : List MapEntry), Ents w A K V es m → Ents w' A' K V es m' → m = m'
  | [], m, m', h, h' => by simp only [Ents] at h h'; rw [h, h']
  | x :: es, m, m', h, h' => by
    simp only [Ents] at h h'
    obtain ⟨e, r, rfl, h1, h2, h3, h4, h5, h6⟩ := h
    obtain ⟨e', r', rfl, k1, k2, k3, k4, k5, k6⟩ := h'
    have hk : e.key = e'.key := by
      rw [val_wrap h2, val_wrap k2, enc_DR K x.1 _ hK h1, enc_DR K x.1 _ hK k1]
    have hv : e.val = e'.val := by
      rw [val_wrap h4, val_wrap k4, enc_DR V x.2.1 _ hV h3, enc_DR V x.2.1 _ hV k3]
    have he : e = e' := by
      cases e; cases e'
      simp only at hk hv h5 k5
      subst hk hv
      rw [← k5] at h5
      subst h5
      rfl
    rw [he, ents_eq hK hV es r r' h6 k6]
/-- where all objects lie as they did, their blocks are what they were -/
theorem flat_keep (hf : flatAll l l = true) (hO : Objs w A (obs l) μ) (hO' : ∀ i, OR w' A' (obs l) μ i) (hk : Keep (own (obs l) μ) w w') : Keep None w w' := by
  have hblk : ∀ b, b < w.heap.size → w'.heap[b]? = w.heap[b]? := fun b hb => by
    by_cases ho : own (obs l) μ b
    · obtain ⟨o, h1, h2⟩ := ho
      have hfo : flatO l (obs l o) = true := by
        have hall : ∀ (bs : List OB), flatAll l bs = true → ∀ x ∈ bs, flatO l x = true := by
          intro bs
          induction bs with
          | nil => intro _ x hx; cases hx
          | cons y bs ih =>
            intro h x hx
            simp only [flatAll, Bool.and_eq_true] at h
            rcases List.mem_cons.1 hx with rfl | hx
            · exact h.1
            · exact ih h.2 x hx
        have hlt := obs_len h1
        have : obs l o ∈ l := by
          have e : obs l o = l[o]'hlt := by simp [obs, List.getD, List.getElem?_eq_getElem hlt]
          rw [e]; exact List.getElem_mem hlt
        exact hall l hf _ this
      have ho1 := hO.each o
      have ho2 := hO' o
      cases hob : obs l o with
      | dead => rw [hob] at h1; cases h1
      | box d v =>
        rw [hob] at hfo
        simp only [OR, hob] at ho1 ho2
        obtain ⟨b1, cs, t, e1, g1, _, g3, _⟩ := ho1
        obtain ⟨b2, cs', t', e2, k1, _, k3, _⟩ := ho2
        rw [e1] at e2
        cases e2
        rw [e1] at h2
        simp only [blkOf, Option.some.injEq] at h2
        subst h2
        obtain ⟨cs2, z2, q⟩ := hk.tys _ _ _ _ g1
        rw [k1] at q
        cases q
        rw [g1, k1]
        have := flatP_eq v _ _ (by simpa only [flatO] using hfo) g3 k3
        rw [Array.toList_inj.1 this]
      | row T xs => rw [hob] at hfo; cases hfo
      | bytes s => rw [hob] at hfo; cases hfo
      | map K V c =>
        rw [hob] at hfo
        simp only [OR, hob] at ho1 ho2
        obtain ⟨b1, mes, e1, g1, g2, _⟩ := ho1
        obtain ⟨b2, mes', e2, k1, k2, _⟩ := ho2
        rw [e1] at e2
        cases e2
        rw [e1] at h2
        simp only [blkOf, Option.some.injEq] at h2
        subst h2
        simp only [flatO, Bool.and_eq_true, Bool.not_eq_true'] at hfo
        have := ents_eq hfo.1 hfo.2 c.1 _ _ g2 k2
        rw [g1, k1, Array.toList_inj.1 this]
      | iter m K V s q r => rw [hob] at hfo; cases hfo
    · exact hk.block b hb ho
  exact ⟨hk.os, hk.tape, hk.output, hk.size, hk.drawn, fun a ha _ => by unfold World.frozen?; rw [hblk _ ha], fun b hb _ => hblk b hb, hk.tys⟩
end
/-- of the first n none is told -/
def noTouch (n : Nat) : List Nat → Bool
  | [] => true
  | o :: l => Nat.ble n o && noTouch n l
theorem noTouch_spec {n : Nat} : ∀ {l : List Nat}, noTouch n l = true → ∀ i, i < n → i ∉ l
  | [], _, i, _, h => by cases h
  | o :: l, h, i, hi, hm => by
    simp only [noTouch, Bool.and_eq_true] at h
    rcases List.mem_cons.1 hm with rfl | hm
    · have := Nat.le_of_ble_eq_true h.1; omega
    · exact noTouch_spec h.2 i hi hm
section
variable {P : Program} {E : Env} {c : Cx} {S : St} {μ : Nat → Value} {a : Act} {w : World}
/-- what a function's call does that touches none of the objects -/
theorem calls_evq {ρ : Type} (hE : EnvTy P E) {f : FuncId} {fn : Func} {code : Code} {nt : Nat} {rs : List ResultVar} (hf : P.funcs[f]? = some fn) (hb : fn.body = some code) (hnt : fn.ntmps = nt) (hrs : fn.results.toList = rs) {evx : St → Kt ρ → Option ρ}
    {objs : List OB} (hev : ∀ (c : Cx), (∀ b, c.M0 b → objs ≠ []) → ∀ (S : St) (K : Kt ρ) (r : ρ) (μ : Nat → Value) (a : Act) (w : World) (n : Nat) (Q : Exit → Act → World → Prop), evx S K = some r → SR c S μ a w → n ≤ S.objs.length → Post c K r n (dsts code) S μ Q → code.wp P Q a w)
    {args : List PV} {K : PV → List OB → Option ρ} {r : ρ} (hk : evx { slots := args ++ List.replicate (nt - args.length) .undef, objs := objs, touched := [] } { n := fun S => cond (noTouch objs.length S.touched) (retK E S rs K) none, x := fun _ _ => none, r := fun S => cond (noTouch objs.length S.touched) (retK E S rs K) none } = some r)
    (w : World) (A : Nat → Prop) (μ : Nat → Value) (vals : List Value) (hO : Objs w A (obs objs) μ) (hargs : TRs w A (obs objs) μ args vals) :
    Calls P f vals.toArray w fun e w' => ∃ v res objs' μ', e = .returned v ∧ K res objs' = some r ∧ CallPost w w' A objs μ objs' μ' res v ∧ ∀ i, i < objs.length → obs objs' i = obs objs i := by
  · have hc : ∃ c : Cx, c.w0 = w ∧ c.A0 = A ∧ c.M0 = own (obs objs) μ := ⟨⟨w, A, own (obs objs) μ, hO.old, hO.mine⟩, rfl, rfl, rfl⟩
    obtain ⟨c, hw0, hA0, hM0⟩ := hc
    refine calls_of_wp hf hb ?_
    generalize hS : ({ slots := args ++ List.replicate (nt - args.length) .undef, objs := objs, touched := [] } : St) = S
    have hob : S.ob = obs objs := by subst hS; rfl
    have hSo : S.objs = objs := by subst hS; rfl
    have hav : ∀ b, av c S.ob μ b → A b := fun b hb => by
      rcases hb with hb | hb
      · rw [hA0] at hb; exact hb
      · rw [hob] at hb; exact hO.mine b hb
    have hsz := hargs.len
    have hsr : SR c S μ { tmps := vals.toArray ++ Array.replicate (fn.ntmps - vals.toArray.size) undef, defers := [] } w := by
      refine ⟨rfl, ⟨?_, fun t v ht => ?_⟩, ?_, by rw [hw0]; exact Keep.refl _ w, fun b hb => .inl (by rw [hM0, ← hob]; exact hb)⟩
      · subst hS; simp [hnt, hsz]
      · subst hS
        simp only at ht
        rw [List.getElem?_append] at ht
        split at ht
        · rename_i hlt
          obtain ⟨x, hx, hv⟩ := hargs.each t v ht
          have : (vals.toArray ++ Array.replicate (fn.ntmps - vals.toArray.size) undef).getD t undef = x := by
            rw [Array.getD_eq_getD_getElem?, Array.getElem?_append_left (by simp; omega)]
            simp [hx]
          show VR w _ _ _ v ((vals.toArray ++ Array.replicate (fn.ntmps - vals.toArray.size) undef).getD t undef)
          rw [this]
          exact VR.later (Keep.refl None w) (fun b _ hb => hav b hb) (fun _ h => h.elim) (fun o _ => by rw [hob]; exact Later.refl _ _ o) hv
        · rename_i hge
          rw [List.getElem?_replicate] at ht
          split at ht
          · simp only [Option.some.injEq] at ht
            subst ht
            have : (vals.toArray ++ Array.replicate (fn.ntmps - vals.toArray.size) undef).getD t undef = undef := by
              rw [Array.getD_eq_getD_getElem?, Array.getElem?_append_right (by simp; omega), Array.getElem?_replicate]
              split <;> rfl
            show VR w _ _ _ _ ((vals.toArray ++ Array.replicate (fn.ntmps - vals.toArray.size) undef).getD t undef)
            rw [this]
            exact .mk_undef
          · cases ht
      · rw [hob]
        exact ⟨fun o => (hO.each o).later (Keep.refl None w) (fun b _ hb => hav b (by rw [hob]; exact hb)) (fun _ h => h.elim) (.inl rfl) (fun _ => rfl) (fun b h1 h2 => ⟨fun h => h.elim, hO.old b (hO.mine b ⟨o, h1, h2⟩)⟩) (fun x _ => Later.refl _ _ x), hO.apart, fun b hb => .inr hb, fun b hb => hO.old b (hav b (by rw [hob]; exact hb)), fun p hp => ⟨(hO.lay p hp).1, fun a => (hO.lay p hp).2 (hav _ (by rw [hob]; exact a))⟩⟩
    rw [hS] at hk
    have hfin : ∀ S' μ' a' w', cond (noTouch objs.length S'.touched) (retK E S' rs K) none = some r → SR c S' μ' a' w' → Ag objs.length (dsts code) S μ S' μ' → a'.defers = [] ∧ ∃ v, (results fn a'.tmps).run P w' = .ok v w' ∧
        ∃ v' res objs' μ', Ending.returned v = .returned v' ∧ K res objs' = some r ∧ CallPost w w' A objs μ objs' μ' res v' ∧ ∀ i, i < objs.length → obs objs' i = obs objs i := by
      intro S' μ' a' w' h1 h2 h3
      obtain ⟨hnt, h1⟩ := cond_some h1
      have hsame : ∀ i, i < objs.length → obs S'.objs i = obs objs i := fun i hi => by
        rcases h3.ob i hi with h | h
        · rw [← hob]; exact h
        · exact absurd h (noTouch_spec hnt i hi)
      refine ⟨h2.defers, ?_⟩
      unfold retK at h1
      have hpost : ∀ (res : PV) (v : Value), VR w' (av c S'.ob μ') S'.ob μ' res v → CallPost w w' A objs μ S'.objs μ' res v := fun res v hv => by
        refine ⟨h3.olen, ?_, ?_, ?_, fun b hb => ?_, fun i hi => ?_⟩
        · have := h2.keep; rw [hM0, hw0] at this; exact this
        · have := h2.objs; unfold av at this; rw [hA0] at this; exact this
        · unfold av at hv; rw [hA0] at hv; exact hv
        · have := h2.mine b hb; rw [hM0, hw0] at this; exact this
        · have := h3.later i hi; rw [hob] at this; exact this
      have hres : ∀ vs, retL E S' rs = some vs → ∃ xs : List Value, (fn.results.mapM (retV a'.tmps)).run P w' = .ok xs.toArray w' ∧ TRs w' (av c S'.ob μ') S'.ob μ' vs xs := fun vs hvs => by
        obtain ⟨xs, g1, g2⟩ := retL_sound hE h2 rs vs hvs
        refine ⟨xs, ?_, g2⟩
        rw [Array.mapM_eq_mapM_toList, hrs, Sem.run_map, g1]
        rfl
      rw [results_eq]
      split at h1
      · rename_i v hv
        obtain ⟨xs, g1, g2⟩ := hres _ hv
        simp only [TRs] at g2
        obtain ⟨x, rest, rfl, g3, rfl⟩ := g2
        exact ⟨x, by rw [Sem.run_bind, g1]; rfl, x, v, S'.objs, μ', rfl, h1, hpost v x g3, hsame⟩
      · rename_i vs hne hv
        obtain ⟨xs, g1, g2⟩ := hres _ hv
        have hl := g2.len
        have h1x : xs.length ≠ 1 := fun e => by
          rw [e] at hl
          match vs, hl with
          | [v], _ => exact hne v rfl
        refine ⟨.tuple xs.toArray, by rw [Sem.run_bind, g1]; simp [Result.andThen, h1x], .tuple xs.toArray, .tup vs, S'.objs, μ', rfl, h1, hpost _ _ (.of_one ?_ rfl rfl), hsame⟩
        simp only [CR]
        exact ⟨_, rfl, by simpa using g2⟩
      · cases h1
    exact hev c (fun b hb e => by
        rw [hM0] at hb
        obtain ⟨o, h1, _⟩ := hb
        have := obs_len h1
        rw [e] at this
        exact absurd this (Nat.not_lt_zero _)) S _ r μ _ w objs.length _ hk hsr (by rw [hSo]; exact Nat.le_refl _)
      ⟨fun S' μ' a' w' h1 h2 h3 => hfin S' μ' a' w' h1 h2 h3, fun j S' μ' a' w' h1 => (by cases h1), fun S' μ' a' w' h1 h2 h3 => hfin S' μ' a' w' h1 h2 h3⟩
end
/-! ### A function that leaves the objects as they were -/
/-- .. as the evaluator sees it -/
noncomputable def evFunR0 {ρ : Type} (E : Env) (H : Hints) (k : Nat) (code : Code) (nt : Nat) (rs : List ResultVar) (args : List PV) (objs : List OB) (K : PV → List OB → Option ρ) : Option ρ :=
  ev { E with give := objs.isEmpty } H k code 0 { slots := args ++ List.replicate (nt - args.length) .undef, objs := objs, touched := [] }
    { n := fun S => cond (noTouch objs.length S.touched) (retK E S rs fun v l => K v (objs ++ l.drop objs.length)) none, x := fun _ _ => none, r := fun S => cond (noTouch objs.length S.touched) (retK E S rs fun v l => K v (objs ++ l.drop objs.length)) none }
theorem evFunR0_nat {ρ τ : Type} {E : Env} {H : Hints} {k : Nat} {code : Code} {nt : Nat} {rs : List ResultVar} {args : List PV} {objs : List OB} {K : PV → List OB → Option ρ} {f : ρ → Option τ} :
    (evFunR0 E H k code nt rs args objs K).bind f = evFunR0 E H k code nt rs args objs (fun v l => (K v l).bind f) := by
  unfold evFunR0
  rw [ev_nat]
  congr 1
  refine Kt.ext (fun S => ?_) (fun _ _ => rfl) (fun S => ?_)
  · simp only [Kt.bind]
    rw [cond_bind, retK_nat]; rfl
  · simp only [Kt.bind]
    rw [cond_bind, retK_nat]; rfl
noncomputable def FSem.evr (E : Env) (H : Hints) (k : Nat) (code : Code) (nt : Nat) (rs : List ResultVar) : FSem where
  modes := []
  quiet := false
  run := fun args objs K => evFunR0 E H k code nt rs args objs K
  param := fun args objs K => by
    have := evFunR0_nat (E := E) (H := H) (k := k) (code := code) (nt := nt) (rs := rs) (args := args) (objs := objs) (K := fun v l => some (v, l)) (f := fun p => K p.1 p.2)
    simp only [Option.bind_some] at this
    rw [← this]
    cases evFunR0 E H k code nt rs args objs (fun v l => some (v, l)) <;> rfl
  ro := true
  roOK := fun _ args objs p hp => by
    have hf : ∃ f : PV × List OB → Option (PV × List OB), (∀ v l, f (v, objs ++ l) = some (v, objs ++ l)) ∧ ∀ q q', f q = some q' → ∃ new, q'.2 = objs ++ new := by
      classical
      refine ⟨fun q => if ∃ new, q.2 = objs ++ new then some q else none, fun v l => if_pos ⟨l, rfl⟩, fun q q' h => ?_⟩
      have h : (if ∃ new, q.2 = objs ++ new then some q else none) = some q' := h
      by_cases hq : ∃ new, q.2 = objs ++ new
      · rw [if_pos hq] at h; cases h; exact hq
      · rw [if_neg hq] at h; cases h
    obtain ⟨f, hf1, hf2⟩ := hf
    have h := evFunR0_nat (E := E) (H := H) (k := k) (code := code) (nt := nt) (rs := rs) (args := args) (objs := objs) (K := fun v l => some (v, l)) (f := f)
    have e : evFunR0 E H k code nt rs args objs (fun v l => (some (v, l) : Option (PV × List OB)).bind f) = evFunR0 E H k code nt rs args objs (fun v l => some (v, l)) := by
      unfold evFunR0
      simp only [Option.bind_some, hf1]
    rw [e, hp, Option.bind_some] at h
    exact hf2 p p h
/-- a function that its callers see as the evaluator does, and that leaves the objects as they were -/
theorem ev_inlineR {P : Program} {E : Env} (hE : EnvOK P E) (hm : P.follows .mixedOrders = true) {H : Hints} {k : Nat} {f : FuncId} {fn : Func} {code : Code} {nt : Nat} {rs : List ResultVar} (hf : P.funcs[f]? = some fn) (hname : (fn.name == "runtime.NumGoroutine") = false) (hb : fn.body = some code) (hnt : fn.ntmps = nt) (hrs : fn.results.toList = rs) : SoundF P f (FSem.evr E H k code nt rs) := by
  intro ρ args objs K r h
  refine ⟨enters_of hf hname hb, fun w A μ vals hO hargs => ?_⟩
  refine (calls_evq hE.1 hf hb hnt hrs (evx := fun S K => ev { E with give := objs.isEmpty } H k code 0 S K) (fun c hc S K r μ a w n Q h hs hn hp => ev_sound (hE.giving hc) hm code 0 S K r μ a w n Q h hs hn hp) h w A μ vals hO hargs).mono ?_
  rintro e w' ⟨v, res, objs', μ', rfl, hK, hpost, hsame⟩
  have ho : objs ++ objs'.drop objs.length = objs' := by
    have hl := hpost.olen
    apply List.ext_getElem?
    intro i
    by_cases hi : i < objs.length
    · rw [List.getElem?_append_left hi]
      have h2 := hsame i hi
      simp only [obs, List.getD, List.getElem?_eq_getElem hi, List.getElem?_eq_getElem (show i < objs'.length by omega), Option.getD_some] at h2
      rw [List.getElem?_eq_getElem hi, List.getElem?_eq_getElem (show i < objs'.length by omega), h2]
    · rw [List.getElem?_append_right (by omega), List.getElem?_drop]
      congr 1
      omega
  rw [ho] at hK
  exact ⟨v, res, objs', μ', rfl, hK, hpost⟩
end Go.Vm
